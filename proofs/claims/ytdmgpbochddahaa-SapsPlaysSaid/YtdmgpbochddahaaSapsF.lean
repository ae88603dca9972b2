/- The law SapsFull, walked. -/
import Derived.Test.YtdmgpbochddahaaSapsD
import Derived.Test.YtdmgpbochddahaaParS
namespace Go.Proofs.Ytdmgpbochddahaa
open Go.RowKit Go.Shelf Go.ChangeMaps
set_option linter.unusedVariables false
set_option linter.unusedSimpArgs false

/-- So many SAPs, of one class; some of them in group a. -/
def fullA (c : Int) (n : Nat) (gs : Nat → List Int) : List AE := (List.range n).map fun (j : Nat) => ⟨2 + 2 * (j : Int), c, gs j⟩
theorem look_full (c : Int) (n : Nat) (gs : Nat → List Int) (j : Nat) : lookA (fullA c n gs) (2 + 2 * (j : Int)) = if j < n then some ⟨2 + 2 * (j : Int), c, gs j⟩ else none := by
  unfold lookA fullA
  rw [List.find?_map]
  induction n with
  | zero => rfl
  | succ n ih =>
    rw [List.range_succ, List.find?_append]
    by_cases h : j < n
    · rw [if_pos h] at ih
      rw [if_pos (by omega)]
      rw [Option.map_eq_some_iff] at ih
      obtain ⟨x, hx, e⟩ := ih
      rw [hx]; simpa using e
    · rw [if_neg h, Option.map_eq_none_iff] at ih
      rw [ih, Option.none_or]
      by_cases hj : j = n
      · subst hj; rw [if_pos (by omega)]; simp
      · rw [if_neg (by omega)]
        have : ((2 + 2 * (n : Int)) == 2 + 2 * (j : Int)) = false := by simp; omega
        simp [this]
theorem len_full (c : Int) (n : Nat) (gs : Nat → List Int) : (fullA c n gs).length = n := by simp [fullA]
theorem sap_full (j : Nat) (h : j ≤ 16) : sapB (2 + 2 * (j : Int)) = true := by unfold sapB; simp; omega
theorem open_full (c : Int) (n : Nat) (gs : Nat → List Int) (h : n < 16) (hc : 1 ≤ c ∧ c ≤ 4) (hg : gs n = []) : openA (fullA c n gs) (2 + 2 * (n : Int)) c = (0, fullA c (n + 1) gs) := by
  have ha : argB (2 + 2 * (n : Int)) c = true := by unfold argB; rw [sap_full n (by omega)]; simp; omega
  unfold openA
  rw [if_neg (by rw [ha]; simp), look_full]
  simp only [Nat.lt_irrefl, if_false, Option.isSome_none, Bool.false_eq_true, len_full]
  rw [if_neg (by omega)]
  simp [fullA, List.range_succ, hg]
theorem open_over (c : Int) (gs : Nat → List Int) : openA (fullA c 16 gs) 34 1 = (6, fullA c 16 gs) := by
  unfold openA
  rw [if_neg (by decide), show (34 : Int) = 2 + 2 * ((16 : Nat) : Int) from rfl, look_full, len_full]
  rfl
theorem open_again (c : Int) (gs : Nat → List Int) : openA (fullA c 16 gs) 2 1 = (8, fullA c 16 gs) := by
  unfold openA
  rw [if_neg (by decide), show (2 : Int) = 2 + 2 * ((0 : Nat) : Int) from rfl, look_full]
  rfl
def inG (a : Int) (mb : Nat → Bool) (j : Nat) : List Int := if mb j then [a] else []
def setB (mb : Nat → Bool) (k : Nat) (x : Bool) : Nat → Bool := fun j => if j = k then x else mb j
theorem full_map (c a : Int) (mb : Nat → Bool) (k : Nat) (f : List Int → List Int) (x : Bool) (hf : f (inG a mb k) = if x then [a] else []) :
    ((fullA c 16 (inG a mb)).map fun y => if y.k = 2 + 2 * (k : Int) then { y with gs := f y.gs } else y) = fullA c 16 (inG a (setB mb k x)) := by
  unfold fullA
  rw [List.map_map]
  apply List.map_congr_left
  intro j _
  simp only [Function.comp_apply]
  by_cases h : j = k
  · subst h
    rw [if_pos rfl, hf]
    simp [inG, setB]
  · rw [if_neg (by omega)]
    simp [inG, setB, h]
theorem join_full (c a : Int) (mb : Nat → Bool) (k : Nat) (h : k < 16) (ha : groupB a = true) : joinA (fullA c 16 (inG a mb)) (2 + 2 * (k : Int)) a = if mb k then (8, fullA c 16 (inG a mb)) else (0, fullA c 16 (inG a (setB mb k true))) := by
  unfold joinA
  rw [if_neg (by rw [ha]; simp), look_full, if_pos h]
  dsimp only
  by_cases hb : mb k = true
  · rw [if_pos (by simp [inG, hb]), if_pos hb]
  · rw [if_neg (by simp [inG, hb]), if_neg hb, full_map c a mb k (· ++ [a]) true (by simp [inG, hb])]
theorem leave_full (c a : Int) (mb : Nat → Bool) (k : Nat) (h : k < 16) (ha : groupB a = true) : leaveA (fullA c 16 (inG a mb)) (2 + 2 * (k : Int)) a = if mb k then (0, fullA c 16 (inG a (setB mb k false))) else (7, fullA c 16 (inG a mb)) := by
  unfold leaveA
  rw [if_neg (by rw [ha]; simp), look_full, if_pos h]
  dsimp only
  by_cases hb : mb k = true
  · rw [if_pos (by simp [inG, hb]), if_pos hb, full_map c a mb k (·.filter (· != a)) false (by simp [inG, hb])]
  · rw [if_neg (by simp [inG, hb]), if_neg hb]

/-- The bools that the law keeps. -/
def MB (w : World) (bm : Nat) (mb : Nat → Bool) : Prop := ∀ j, j < 16 → w.cell? ⟨bm, j, none⟩ = some (.bool (mb j)) ∧ w.frozen? ⟨bm, j, none⟩ = false
theorem MB.lt {w : World} {bm : Nat} {mb : Nat → Bool} (h : MB w bm mb) : bm < w.heap.size := World.block_lt_of_cell? w _ (h 0 (by omega)).1
theorem MB.fr {w w' : World} {L : List Nat} {bm : Nat} {mb : Nat → Bool} (h : MB w bm mb) (f : Fr L w w') (hn : bm ∉ L) : MB w' bm mb := fun j hj =>
  ⟨f.cell (h j hj).1 hn, by rw [World.frozen?_of_block (w := w) (f.block bm h.lt hn)]; exact (h j hj).2⟩
theorem frz_setCell (w : World) (a p : Addr) (v : Value) : (w.setCell a v).frozen? p = w.frozen? p := by
  simp only [World.frozen?, World.setCell, Array.getElem?_modify]
  by_cases hh : a.block = p.block
  · rw [if_pos hh]
    cases w.heap[p.block]? with
    | none => rfl
    | some o => cases o <;> rfl
  · rw [if_neg hh]
theorem MB.set {w : World} {bm : Nat} {mb : Nat → Bool} (h : MB w bm mb) {k : Nat} (hk : k < 16) (x : Bool) : MB (w.setCell ⟨bm, k, none⟩ (.bool x)) bm (setB mb k x) := fun j hj => by
  refine ⟨?_, by rw [frz_setCell]; exact (h j hj).2⟩
  by_cases e : j = k
  · subst e
    rw [World.cell?_setCell_same _ _ _ (h j hj).1]; simp [setB]
  · rw [World.cell?_setCell_other _ _ _ _ (fun e' => by cases e'; exact e rfl), (h j hj).1]; simp [setB, e]
def falses : Array Value := Array.replicate 16 (.bool false)
theorem mk16 (w : World) : (Instr.makeSlice 36 (Value.int IntKind.i64 16) (Value.int IntKind.i64 16)).run Try.prog w = .ok (.slice (some ⟨w.heap.size, 0, none⟩) 16 16) (w.alloc (.cells falses 4)) := by kernel_rfl
theorem MB.new (w : World) (t : TypeId) : MB (w.alloc (.cells falses t)) w.heap.size fun _ => false := fun j hj =>
  ⟨(Blk.new w falses t).cell j (by simp [falses, hj]), (Blk.new w falses t).free j⟩
theorem AtM.setFar {w0 w : World} {p : Nat} {m : List AE} (h : AtM w0 w p m) {bm : Nat} (hb : w0.heap.size ≤ bm) (hn : ∃ cs t f, w.heap[bm]? = some (.cells cs t f)) (hp : bm ≠ p) (i : Nat) (v : Value) : AtM w0 (w.setCell ⟨bm, i, none⟩ v) p m := by
  obtain ⟨b, c, l, h1, h2, h3, h4⟩ := h
  have f : Fr [bm] w (w.setCell ⟨bm, i, none⟩ v) := (Fr.refl _ _).setCell _ (.inl (by simp))
  obtain ⟨cs, t, fz, hbm⟩ := hn
  refine ⟨b, c, l, h1.fr f ?_, h2, h3.setL _ _ _ (.inr hb), h4⟩
  intro x hx hxm
  simp only [List.mem_singleton] at hxm
  subst hxm
  simp only [foot, List.mem_cons, List.mem_map] at hx
  rcases hx with hx | hx | ⟨y, hy, hx⟩
  · exact hp hx
  · have := h1.map; rw [← hx, hbm] at this; cases this
  · obtain ⟨l', c', h5, _⟩ := h1.grp y hy
    rw [hx, hbm] at h5; cases h5

/-- .. and its blocks are F. -/
def AtF (w0 w : World) (p : Nat) (m : List AE) (F : List Nat) : Prop := ∃ b c l, At w0 w p m b c l ∧ foot p b l = F
theorem AtF.atM {w0 w : World} {p : Nat} {m : List AE} {F : List Nat} (h : AtF w0 w p m F) : AtM w0 w p m := by
  obtain ⟨b, c, l, h, _⟩ := h; exact ⟨b, c, l, h⟩
theorem AtM.atF {w0 w : World} {p : Nat} {m : List AE} (h : AtM w0 w p m) : ∃ F, AtF w0 w p m F := by
  obtain ⟨b, c, l, h⟩ := h; exact ⟨_, b, c, l, h, rfl⟩
theorem AtF.on {w0 w w' : World} {p : Nat} {m : List AE} {F : List Nat} (f : Fr [] w w') (h : AtF w0 w p m F) : AtF w0 w' p m F := by
  obtain ⟨b, c, l, ⟨h1, h2, h3, h4⟩, h5⟩ := h
  exact ⟨b, c, l, ⟨h1.fr0 f, h2, h3.tr f, h4⟩, h5⟩
theorem AtF.notin {w0 w : World} {p : Nat} {m : List AE} {F : List Nat} (h : AtF w0 w p m F) {bm : Nat} (hn : ∃ cs t f, w.heap[bm]? = some (.cells cs t f)) (hp : bm ≠ p) : bm ∉ F := by
  obtain ⟨b, c, l, ⟨h1, h2, h3, h4⟩, rfl⟩ := h
  obtain ⟨cs, t, fz, hbm⟩ := hn
  intro hx
  simp only [foot, List.mem_cons, List.mem_map] at hx
  rcases hx with hx | hx | ⟨y, hy, hx⟩
  · exact hp hx
  · have := h1.map; rw [← hx, hbm] at this; cases this
  · obtain ⟨l', c', h5, _⟩ := h1.grp y hy
    rw [hx, hbm] at h5; cases h5

theorem Join_F (w0 w : World) (p : Nat) (m : List AE) (n g : Int) (F : List Nat) (h : AtF w0 w p m F) :
    Calls Try.prog 15 #[.pointer (some ⟨p, 0, none⟩), .int .i64 n, .int .i64 g] w fun e w' => e = .returned (.int .i64 (joinA m n g).1) ∧ AtF w0 w' p (joinA m n g).2 F ∧ Fr F w w' := by
  obtain ⟨b, k, l, hA, hFo⟩ := h
  have hA' : AtF w0 w p m F := ⟨b, k, l, hA, hFo⟩
  obtain ⟨hS, rfl, hF, hN⟩ := hA
  unfold joinA
  by_cases hg : groupB g = false
  · rw [if_pos hg]
    refine (Join_arg w p n g hg).mono ?_
    rintro e w' ⟨rfl, rfl⟩
    exact ⟨rfl, hA', Fr.refl _ _⟩
  · have hg' : groupB g = true := by simpa using hg
    rw [if_neg hg, look_a]
    cases hl : look l n with
    | none =>
      refine (Join_none w p b k l n g hS hg' hl).mono ?_
      rintro e w' ⟨rfl, f⟩
      exact ⟨rfl, hA'.on f, f.mono (by simp)⟩
    | some x =>
      obtain ⟨hxm, rfl⟩ := look_mem hl
      simp only [Option.map_some]
      by_cases hc : x.gs.contains g = true
      · rw [if_pos (show x.a.gs.contains g = true from hc)]
        refine (Join_in w p b k l g x hS hg' hl hc).mono ?_
        rintro e w' ⟨rfl, f⟩
        exact ⟨rfl, hA'.on f, f.mono (by simp)⟩
      · rw [if_neg (show ¬ x.a.gs.contains g = true from hc)]
        refine (Join_ok w p b k l g x hS hg' hl (by simpa using hc)).mono ?_
        rintro e w' ⟨rfl, hS', f⟩
        have hxF : x.gb ∈ foot p b l := by simp only [foot, List.mem_cons]; exact .inr (.inr (List.mem_map_of_mem hxm))
        refine ⟨rfl, ⟨b, k, _, ⟨hS', regr_a _ _ _, hF.trans f (fun y hy => .inr (hN y ?_)), fun y hy => hN y (by rwa [foot_regr] at hy)⟩, by rw [foot_regr]; exact hFo⟩, f.mono (fun y hy => .inl ?_)⟩
        · simp only [List.mem_singleton] at hy; subst hy; exact hxF
        · simp only [List.mem_singleton] at hy; subst hy; rw [← hFo]; exact hxF

theorem Leave_F (w0 w : World) (p : Nat) (m : List AE) (n g : Int) (F : List Nat) (h : AtF w0 w p m F) :
    Calls Try.prog 18 #[.pointer (some ⟨p, 0, none⟩), .int .i64 n, .int .i64 g] w fun e w' => e = .returned (.int .i64 (leaveA m n g).1) ∧ AtF w0 w' p (leaveA m n g).2 F ∧ Fr F w w' := by
  obtain ⟨b, k, l, hA, hFo⟩ := h
  have hA' : AtF w0 w p m F := ⟨b, k, l, hA, hFo⟩
  obtain ⟨hS, rfl, hF, hN⟩ := hA
  unfold leaveA
  by_cases hg : groupB g = false
  · rw [if_pos hg]
    refine (Leave_arg w p n g hg).mono ?_
    rintro e w' ⟨rfl, rfl⟩
    exact ⟨rfl, hA', Fr.refl _ _⟩
  · have hg' : groupB g = true := by simpa using hg
    rw [if_neg hg, look_a]
    cases hl : look l n with
    | none =>
      refine (Leave_none w p b k l n g hS hg' hl).mono ?_
      rintro e w' ⟨rfl, f⟩
      exact ⟨rfl, hA'.on f, f.mono (by simp)⟩
    | some x =>
      obtain ⟨hxm, rfl⟩ := look_mem hl
      simp only [Option.map_some]
      by_cases hc : x.gs.contains g = true
      · rw [if_pos (show x.a.gs.contains g = true from hc)]
        refine (Leave_ok w p b k l g x hS hg' hl hc).mono ?_
        rintro e w' ⟨rfl, hS', f⟩
        have hxF : x.gb ∈ foot p b l := by simp only [foot, List.mem_cons]; exact .inr (.inr (List.mem_map_of_mem hxm))
        refine ⟨rfl, ⟨b, k, _, ⟨hS', regr_a _ _ _, hF.trans f (fun y hy => .inr (hN y ?_)), fun y hy => hN y (by rwa [foot_regr] at hy)⟩, by rw [foot_regr]; exact hFo⟩, f.mono (fun y hy => .inl ?_)⟩
        · simp only [List.mem_singleton] at hy; subst hy; exact hxF
        · simp only [List.mem_singleton] at hy; subst hy; rw [← hFo]; exact hxF
      · rw [if_neg (show ¬ x.a.gs.contains g = true from hc)]
        refine (Leave_out w p b k l g x hS hg' hl (by simpa using hc)).mono ?_
        rintro e w' ⟨rfl, f⟩
        exact ⟨rfl, hA'.on f, f.mono (by simp)⟩

def wantL (mb : Nat → Bool) (k : Nat) : List Int := ((List.range k).filter mb).map fun (j : Nat) => 2 + 2 * (j : Int)
theorem wantL_succ (mb : Nat → Bool) (k : Nat) : wantL mb (k + 1) = wantL mb k ++ if mb k then [2 + 2 * (k : Int)] else [] := by
  unfold wantL
  rw [List.range_succ, List.filter_append, List.map_append]
  by_cases h : mb k = true <;> simp [h]
theorem wantL_len (mb : Nat → Bool) (k : Nat) : (wantL mb k).length ≤ k := by
  unfold wantL; have := List.length_filter_le mb (List.range k); simp at this ⊢; exact this
theorem wantL_wf (mb : Nat → Bool) (k : Nat) (hk : k ≤ 16) : ∀ x ∈ wantL mb k, (Lit.int .i64 x).wf = true := by
  intro x hx
  simp only [wantL, List.mem_map, List.mem_filter, List.mem_range] at hx
  obtain ⟨j, ⟨hj, _⟩, rfl⟩ := hx
  simp [Lit.wf, IntKind.min, IntKind.max, IntKind.signed, IntKind.bits]; omega
theorem wantL_pw (mb : Nat → Bool) (k : Nat) : (wantL mb k).Pairwise (· ≤ ·) := by
  unfold wantL
  rw [List.pairwise_map]
  exact (List.pairwise_lt_range.sublist List.filter_sublist).imp (fun h => by omega)
theorem hear_full (c g : Int) (mb : Nat → Bool) (hg : 0 ≤ g) : hearA (fullA c 16 (inG (1 + 2 * (g % 127)) mb)) (1 + 2 * (g % 127)) = wantL mb 16 := by
  have h : ((fullA c 16 (inG (1 + 2 * (g % 127)) mb)).filter fun x => hearsB (1 + 2 * (g % 127)) x.k x.gs).map (·.k) = wantL mb 16 := by
    unfold fullA wantL
    rw [List.filter_map, List.map_map]
    have e1 : ∀ j : Nat, ((fun x : AE => hearsB (1 + 2 * (g % 127)) x.k x.gs) ∘ fun (j : Nat) => (⟨2 + 2 * (j : Int), c, inG (1 + 2 * (g % 127)) mb j⟩ : AE)) j = mb j := fun j => by
      have a1 : (1 + 2 * (g % 127) == 255) = false := by simp; omega
      have a2 : (1 + 2 * (g % 127) == 2 + 2 * (j : Int)) = false := by simp; omega
      simp only [Function.comp_apply, hearsB, a1, a2, Bool.false_or, inG]
      by_cases h : mb j = true <;> simp [h]
    rw [funext e1]
    rfl
  unfold hearA
  rw [h]
  exact sorted_perm_eq (srt_pw _) (wantL_pw _ _) (List.mergeSort_perm _ _)
def IsLv (x : Value) (B : World → Prop) : World → Value → Prop := fun w v => v = x ∧ B w
theorem IsLv.keeps {x : Value} {B : World → Prop} (h : ∀ w w', Fr [] w w' → B w → B w') : Keeps [] (IsLv x B) := fun _ _ _ f ⟨e, hb⟩ => ⟨e, h _ _ f hb⟩
theorem setCell_cells {w : World} {bm : Nat} {cs : Array Value} {t : TypeId} {f : Nat × Nat} (h : w.heap[bm]? = some (.cells cs t f)) (i : Nat) (v : Value) : ∃ cs t f, (w.setCell ⟨bm, i, none⟩ v).heap[bm]? = some (.cells cs t f) := by
  refine ⟨_, _, _, by simp only [World.setCell, Array.getElem?_modify, if_true, h, Option.map_some]; rfl⟩
theorem setB_same (mb : Nat → Bool) (k : Nat) (x : Bool) (h : mb k = x) : setB mb k x = mb := by
  funext j; unfold setB; by_cases e : j = k
  · subst e; rw [if_pos rfl, h]
  · rw [if_neg e]


set_option maxHeartbeats 4000000 in
set_option maxRecDepth 100000 in
theorem walk_SapsFull (w : World) (cl : Int) (hcl : (Lit.int .u8 cl).wf = true) (A : Option Addr) (cap : Nat) (l : List Int) (m : l.length ≤ 9223372036854775807) (hA : ArgInts .u8 w A l) (g : Int) (hg : (Lit.int .u8 g).wf = true) :
    Calls Try.prog 5 #[.int .u8 cl, .slice A l.length cap, .int .u8 g] w fun e w' => e = .returned (.bool true) ∧ Fr [] w w' := by
  obtain ⟨i0, hi, hz0, hz1, hz2⟩ := info_parts (show (Try.prog.info? 3).map (fun i => (i.zero, i.size, i.bytes)) = some (some (.int .i64 0), 1, 8) by kernel_rfl)
  have hun : Try.prog.underlying 31 = some (.slice 3) := Try.underlying31
  have hclb := wf_u8 hcl
  have hgb := wf_u8 hg
  clear hcl hg
  by_cases hl : 100 < l.length
  · have d1 : decide ((100 : Int) < (l.length : Int)) = true := by simp; omega
    go_enter Try.func5, Try.ntmps5
    go_wp2_with fail
    refine (saps_awake _).mono ?_
    rintro e w1 ⟨rfl, f1⟩
    go_wp2
    go_ret
    exact ⟨rfl, f1⟩
  · have d1 : decide ((100 : Int) < (l.length : Int)) = false := by simp; omega
    have hc4 : 1 ≤ 1 + cl % 4 ∧ 1 + cl % 4 ≤ 4 := by omega
    have hga : groupB (1 + 2 * (g % 127)) = true := by unfold groupB; simp; omega
    have hfin := fun c mb => hear_full c g mb hgb.1
    have HFIN := Lib.hid hfin
    clear hfin
    go_enter Try.func5, Try.ntmps5
    go_wp2_with fail
    refine (saps_awake _).mono ?_
    rintro e w1 ⟨rfl, f1⟩
    go_wp2_with fail
    refine (saps_New _).mono ?_
    rintro e w2 ⟨p, b, rfl, hS, hpw, hb, f2⟩
    have h0 := AtM.start hS hpw hb f1 f2
    clear hS hb f1 f2
    go_wp2
    go_loopw [8] (fun i wr => ∃ k : Nat, i = .int .i64 k ∧ k ≤ 16 ∧ AtM w wr p (fullA (1 + cl % 4) k (fun _ => []))) (fun i _ => 16 - (intOf i).toNat)
    case atStart => exact ⟨0, rfl, by omega, h0⟩
    case round =>
      obtain ⟨k, rfl, hk, hT⟩ := hrel
      clear h0
      by_cases hlt : k < 16
      · have d2 : decide ((k : Int) < 16) = true := by simp; omega
        have hop := open_full (1 + cl % 4) k (fun _ => []) hlt hc4 rfl
        have HOP := Lib.hid hop
        clear hop
        go_wp2_with fail
        refine (Open_any w _ p _ (2 + 2 * (k : Int)) (1 + cl % 4) hT).mono ?_
        rw [HOP.out]
        rintro e w3 ⟨rfl, hT3⟩
        go_wp2
        go_roundw
        case rel => exact ⟨k + 1, by simp, by omega, hT3⟩
        case measure => simp [intOf]; omega
      · have d2 : decide ((k : Int) < 16) = false := by simp; omega
        obtain rfl : k = 16 := by omega
        go_wp2_with fail
        refine (Open_any w _ p _ 34 1 hT).mono ?_
        rw [open_over]
        rintro e w3 ⟨rfl, hT3⟩
        clear hT
        go_wp2_with fail
        refine (Open_any w _ p _ 2 1 hT3).mono ?_
        rw [open_again]
        rintro e w4 ⟨rfl, hT4⟩
        clear hT3 hlt d2
        have hmk := mk16
        go_wp2
        have hM := MB.new w4 4
        have hT5 : AtM w (w4.alloc (.cells falses 4)) p (fullA (1 + cl % 4) 16 (inG (1 + 2 * (g % 127)) fun _ => false)) := hT4.on ((Fr.refl _ _).alloc _)
        have hbp : w4.heap.size ≠ p := by
          obtain ⟨b, c, l, h1⟩ := hT4
          have := h1.is.blk.lt; omega
        have hbw : w.heap.size ≤ w4.heap.size := hT4.fr.size
        have hcl : ∃ cs t f, (w4.alloc (.cells falses 4)).heap[w4.heap.size]? = some (.cells cs t f) := ⟨_, _, _, Blk.new _ _ _⟩
        clear hT4 hmk
        generalize 1 + 2 * (g % 127) = a at *
        generalize hcc : 1 + cl % 4 = c at *
        clear hcc
        generalize w4.heap.size = bm at *
        generalize (w4.alloc (.cells falses 4)) = w5 at *
        go_loopw [11] (fun i wr => ∃ (k : Nat) (mb : Nat → Bool), i = .int .i64 k ∧ k ≤ l.length ∧ AtM w wr p (fullA c 16 (inG a mb)) ∧ MB wr bm mb ∧ ∃ cs t f, wr.heap[bm]? = some (.cells cs t f)) (fun i _ => l.length - (intOf i).toNat)
        case atStart => exact ⟨0, _, rfl, by omega, hT5, hM, hcl⟩
        case round =>
          clear hT5 hM hcl
          obtain ⟨k, mb, rfl, hk, hT, hM, hcl⟩ := hrel
          by_cases hlt : k < l.length
          · have d3 : decide ((k : Int) < (l.length : Int)) = true := by simp; omega
            obtain ⟨ba, oa, z, rfl, cz, wz, ez⟩ := (hA.fr hT.fr).at_ k hlt
            have hz := wf_u8 wz
            clear ez wz
            obtain ⟨kn, hkn⟩ : ∃ kn : Nat, z % 16 = kn := Int.eq_ofNat_of_zero_le (by omega)
            have hkn16 : kn < 16 := by omega
            have i1 : decide ((kn : Int) < 16) = true := by simp; omega
            obtain ⟨cm, fm⟩ := hM kn hkn16
            obtain ⟨F, hF5⟩ := hT.atF
            have hbF := hF5.notin hcl hbp
            have e0 : (bits BinOp.and IntKind.u8 z 64 != 0) = true ∨ (bits BinOp.and IntKind.u8 z 64 != 0) = false := by cases (bits BinOp.and IntKind.u8 z 64 != 0) <;> simp
            rcases e0 with e0 | e0
            all_goals cases hmb : mb kn
            · rw [hmb] at cm
              have kb : ∀ wx, Fr F wr wx → wx.cell? ⟨bm, kn, none⟩ = some (.bool false) := fun wx hf => hf.cell cm hbF
              have HMB := Lib.hid hmb
              clear hmb cm
              have q1 : IntKind.i64.wrap (2 * (kn : Int)) = 2 * (kn : Int) := IntWalk.i64_in _ (by omega)
              have q2 : IntKind.i64.wrap (2 + 2 * (kn : Int)) = 2 + 2 * (kn : Int) := IntWalk.i64_in _ (by omega)
              go_wp2
              refine wp_region_keepsS 5 F (fun w' => AtF w w' p (fullA c 16 (inG a mb)) F) [Is (.pointer (some ⟨p, 0, none⟩)), Is (.int .i64 kn), Is (.int .i64 (2 * kn)), Is (.int .i64 (2 + 2 * kn)), Is (.int .i64 a), IsLv (.int .i64 7) (fun w' => AtF w w' p (fullA c 16 (inG a mb)) F), Is (.bool false), Is (.slice (some ⟨bm, 0, none⟩) 16 16), Is (.int .i64 kn), Is (.pointer (some ⟨bm, kn, none⟩)), Is (.bool false), Is (.bool false)] 12 (by kernel_rfl) (by kernel_rfl) (by kernel_rfl) (by kernel_rfl) (by kernel_rfl) (by kernel_rfl) ?hV ?hB ?hB0 ?hS ?hD
              case hV =>
                repeat (first | exact trivial | exact Is.keeps _ | exact Any.keeps | exact IsSl.keeps _ _ _ | exact IsLv.keeps (fun _ _ f h => AtF.on f h) | refine And.intro ?_ ?_)
              case hB => exact fun _ _ f h => AtF.on f h
              case hB0 => exact hF5
              case hS =>
                (repeat' (first | exact trivial | refine And.intro ?_ ?_))
                · intro ac wx hf hbs hs hp K hK
                  simp only [waits, holdsA, nth, Is, Any, List.filter_cons, List.filter_nil, List.map_cons, List.map_nil, Region.binds, if_true, true_and, and_true, Nat.reduceAdd, List.getElem?_cons_zero, List.getElem?_cons_succ, Option.bind_some, Array.getD_eq_getD_getElem?] at hp
                  have hs7 := hs 7 (by kernel_rfl)
                  simp only [Array.getD_eq_getD_getElem?, List.getElem?_toArray, List.getElem?_cons_succ, List.getElem?_cons_zero, Option.getD_some] at hs7
                  clear hs
                  clear hf hbs
                  (try simp only [hp])
                  go_simp
                  try dsimp only
                  refine hK.out _ _ ?_ ?_
                  · ((repeat (first | (with_reducible exact Fr.refl _ _) | (with_reducible assumption) | (with_reducible refine Fr.drew ?_) | (with_reducible refine Fr.drewN ?_ _) | (with_reducible refine Fr.alloc ?_ _) | (with_reducible refine Fr.setL ?_ _ _ _ ?_) | (focus (refine Or.inl ?_; simp; done)) | (focus (refine Or.inr ?_; simp; done)) | (focus (refine Or.inr ?_; simp; omega)) | (focus (refine Or.inr ?_; omega)))); done)
                  · simp only [nth]
                    first | (unfold Is; rfl) | (unfold Any; exact trivial) | exact IsSl.new _ _ _ _ | assumption
                · intro ac wx hf hbs hs hp K hK
                  simp only [waits, holdsA, nth, Is, Any, List.filter_cons, List.filter_nil, List.map_cons, List.map_nil, Region.binds, if_true, true_and, and_true, Nat.reduceAdd, List.getElem?_cons_zero, List.getElem?_cons_succ, Option.bind_some, Array.getD_eq_getD_getElem?] at hp
                  have hs12 := hs 12 (by kernel_rfl)
                  simp only [Array.getD_eq_getD_getElem?, List.getElem?_toArray, List.getElem?_cons_succ, List.getElem?_cons_zero, Option.getD_some] at hs12
                  clear hs
                  clear hf hbs
                  (try simp only [hp])
                  go_simp
                  try dsimp only
                  refine hK.out _ _ ?_ ?_
                  · ((repeat (first | (with_reducible exact Fr.refl _ _) | (with_reducible assumption) | (with_reducible refine Fr.drew ?_) | (with_reducible refine Fr.drewN ?_ _) | (with_reducible refine Fr.alloc ?_ _) | (with_reducible refine Fr.setL ?_ _ _ _ ?_) | (focus (refine Or.inl ?_; simp; done)) | (focus (refine Or.inr ?_; simp; done)) | (focus (refine Or.inr ?_; simp; omega)) | (focus (refine Or.inr ?_; omega)))); done)
                  · simp only [nth]
                    first | (unfold Is; rfl) | (unfold Any; exact trivial) | exact IsSl.new _ _ _ _ | assumption
                · intro ac wx hf hbs hs hp K hK
                  simp only [waits, holdsA, nth, Is, Any, List.filter_cons, List.filter_nil, List.map_cons, List.map_nil, Region.binds, if_true, true_and, and_true, Nat.reduceAdd, List.getElem?_cons_zero, List.getElem?_cons_succ, Option.bind_some, Array.getD_eq_getD_getElem?] at hp
                  clear hs
                  clear hf hbs
                  (try simp only [hp])
                  go_simp
                  try dsimp only
                  refine hK.out _ _ ?_ ?_
                  · ((repeat (first | (with_reducible exact Fr.refl _ _) | (with_reducible assumption) | (with_reducible refine Fr.drew ?_) | (with_reducible refine Fr.drewN ?_ _) | (with_reducible refine Fr.alloc ?_ _) | (with_reducible refine Fr.setL ?_ _ _ _ ?_) | (focus (refine Or.inl ?_; simp; done)) | (focus (refine Or.inr ?_; simp; done)) | (focus (refine Or.inr ?_; simp; omega)) | (focus (refine Or.inr ?_; omega)))); done)
                  · simp only [nth]
                    first | (unfold Is; rfl) | (unfold Any; exact trivial) | exact IsSl.new _ _ _ _ | assumption
                · intro ac wx hf hbs hs hp K hK
                  simp only [waits, holdsA, nth, Is, Any, List.filter_cons, List.filter_nil, List.map_cons, List.map_nil, Region.binds, if_true, true_and, and_true, Nat.reduceAdd, List.getElem?_cons_zero, List.getElem?_cons_succ, Option.bind_some, Array.getD_eq_getD_getElem?] at hp
                  clear hs
                  clear hf hbs
                  (try simp only [hp])
                  go_simp
                  try dsimp only
                  refine hK.out _ _ ?_ ?_
                  · ((repeat (first | (with_reducible exact Fr.refl _ _) | (with_reducible assumption) | (with_reducible refine Fr.drew ?_) | (with_reducible refine Fr.drewN ?_ _) | (with_reducible refine Fr.alloc ?_ _) | (with_reducible refine Fr.setL ?_ _ _ _ ?_) | (focus (refine Or.inl ?_; simp; done)) | (focus (refine Or.inr ?_; simp; done)) | (focus (refine Or.inr ?_; simp; omega)) | (focus (refine Or.inr ?_; omega)))); done)
                  · simp only [nth]
                    first | (unfold Is; rfl) | (unfold Any; exact trivial) | exact IsSl.new _ _ _ _ | assumption
                · intro ac wx hf hbs hs hp K hK
                  simp only [waits, holdsA, nth, Is, Any, List.filter_cons, List.filter_nil, List.map_cons, List.map_nil, Region.binds, if_true, true_and, and_true, Nat.reduceAdd, List.getElem?_cons_zero, List.getElem?_cons_succ, Option.bind_some, Array.getD_eq_getD_getElem?] at hp
                  have hs9 := hs 9 (by kernel_rfl)
                  simp only [Array.getD_eq_getD_getElem?, List.getElem?_toArray, List.getElem?_cons_succ, List.getElem?_cons_zero, Option.getD_some] at hs9
                  clear hs
                  clear hf hbs
                  (try simp only [hp])
                  go_simp
                  try dsimp only
                  refine hK.out _ _ ?_ ?_
                  · ((repeat (first | (with_reducible exact Fr.refl _ _) | (with_reducible assumption) | (with_reducible refine Fr.drew ?_) | (with_reducible refine Fr.drewN ?_ _) | (with_reducible refine Fr.alloc ?_ _) | (with_reducible refine Fr.setL ?_ _ _ _ ?_) | (focus (refine Or.inl ?_; simp; done)) | (focus (refine Or.inr ?_; simp; done)) | (focus (refine Or.inr ?_; simp; omega)) | (focus (refine Or.inr ?_; omega)))); done)
                  · simp only [nth]
                    first | (unfold Is; rfl) | (unfold Any; exact trivial) | exact IsSl.new _ _ _ _ | assumption
                · intro ac wx hf hbs hs hp K hK
                  simp only [waits, holdsA, nth, Is, Any, List.filter_cons, List.filter_nil, List.map_cons, List.map_nil, Region.binds, if_true, true_and, and_true, Nat.reduceAdd, List.getElem?_cons_zero, List.getElem?_cons_succ, Option.bind_some, Array.getD_eq_getD_getElem?] at hp
                  clear hs
                  have hb5 := hbs rfl
                  go_simp
                  (try simp only [hp])
                  clear hp
                  go_at_call 18
                  refine (Leave_F w _ p _ _ a F hb5).mono ?_
                  rw [leave_full c a mb kn hkn16 hga, HMB.out]
                  (try rw [if_neg (by decide)])
                  (try rw [if_pos rfl])
                  rintro e w' ⟨rfl, hz, fz⟩
                  exact hK.out _ _ fz ⟨rfl, hz⟩
                · intro ac wx hf hbs hs hp K hK
                  simp only [waits, holdsA, nth, Is, Any, List.filter_cons, List.filter_nil, List.map_cons, List.map_nil, Region.binds, if_true, true_and, and_true, Nat.reduceAdd, List.getElem?_cons_zero, List.getElem?_cons_succ, Option.bind_some, Array.getD_eq_getD_getElem?] at hp
                  clear hs
                  simp only [IsLv] at hp
                  replace hp := hp.1
                  clear hf hbs
                  go_simp
                  (try simp only [hp])
                  go_simp
                  try dsimp only
                  refine hK.out _ _ ?_ ?_
                  · ((repeat (first | (with_reducible exact Fr.refl _ _) | (with_reducible assumption) | (with_reducible refine Fr.drew ?_) | (with_reducible refine Fr.drewN ?_ _) | (with_reducible refine Fr.alloc ?_ _) | (with_reducible refine Fr.setL ?_ _ _ _ ?_) | (focus (refine Or.inl ?_; simp; done)) | (focus (refine Or.inr ?_; simp; done)) | (focus (refine Or.inr ?_; simp; omega)) | (focus (refine Or.inr ?_; omega)))); done)
                  · simp only [nth]
                    first | (unfold Is; rfl) | (unfold Any; exact trivial) | exact IsSl.new _ _ _ _ | assumption
                · intro ac wx hf hbs hs hp K hK
                  simp only [waits, holdsA, nth, Is, Any, List.filter_cons, List.filter_nil, List.map_cons, List.map_nil, Region.binds, if_true, true_and, and_true, Nat.reduceAdd, List.getElem?_cons_zero, List.getElem?_cons_succ, Option.bind_some, Array.getD_eq_getD_getElem?] at hp
                  have hs10 := hs 10 (by kernel_rfl)
                  simp only [Array.getD_eq_getD_getElem?, List.getElem?_toArray, List.getElem?_cons_succ, List.getElem?_cons_zero, Option.getD_some] at hs10
                  clear hs
                  clear hf hbs
                  (try simp only [hp])
                  go_simp
                  try dsimp only
                  refine hK.out _ _ ?_ ?_
                  · ((repeat (first | (with_reducible exact Fr.refl _ _) | (with_reducible assumption) | (with_reducible refine Fr.drew ?_) | (with_reducible refine Fr.drewN ?_ _) | (with_reducible refine Fr.alloc ?_ _) | (with_reducible refine Fr.setL ?_ _ _ _ ?_) | (focus (refine Or.inl ?_; simp; done)) | (focus (refine Or.inr ?_; simp; done)) | (focus (refine Or.inr ?_; simp; omega)) | (focus (refine Or.inr ?_; omega)))); done)
                  · simp only [nth]
                    first | (unfold Is; rfl) | (unfold Any; exact trivial) | exact IsSl.new _ _ _ _ | assumption
                · intro ac wx hf hbs hs hp K hK
                  simp only [waits, holdsA, nth, Is, Any, List.filter_cons, List.filter_nil, List.map_cons, List.map_nil, Region.binds, if_true, true_and, and_true, Nat.reduceAdd, List.getElem?_cons_zero, List.getElem?_cons_succ, Option.bind_some, Array.getD_eq_getD_getElem?] at hp
                  have hs12 := hs 12 (by kernel_rfl)
                  simp only [Array.getD_eq_getD_getElem?, List.getElem?_toArray, List.getElem?_cons_succ, List.getElem?_cons_zero, Option.getD_some] at hs12
                  clear hs
                  clear hf hbs
                  (try simp only [hp])
                  go_simp
                  try dsimp only
                  refine hK.out _ _ ?_ ?_
                  · ((repeat (first | (with_reducible exact Fr.refl _ _) | (with_reducible assumption) | (with_reducible refine Fr.drew ?_) | (with_reducible refine Fr.drewN ?_ _) | (with_reducible refine Fr.alloc ?_ _) | (with_reducible refine Fr.setL ?_ _ _ _ ?_) | (focus (refine Or.inl ?_; simp; done)) | (focus (refine Or.inr ?_; simp; done)) | (focus (refine Or.inr ?_; simp; omega)) | (focus (refine Or.inr ?_; omega)))); done)
                  · simp only [nth]
                    first | (unfold Is; rfl) | (unfold Any; exact trivial) | exact IsSl.new _ _ _ _ | assumption
                · intro ac wx hf hbs hs hp K hK
                  simp only [waits, holdsA, nth, Is, Any, List.filter_cons, List.filter_nil, List.map_cons, List.map_nil, Region.binds, if_true, true_and, and_true, Nat.reduceAdd, List.getElem?_cons_zero, List.getElem?_cons_succ, Option.bind_some, Array.getD_eq_getD_getElem?] at hp
                  clear hs
                  clear hf hbs
                  (try simp only [hp])
                  go_simp
                  rw [if_pos (show (kn : Int) < 16 by omega)]
                  try dsimp only
                  refine hK.out _ _ ?_ ?_
                  · ((repeat (first | (with_reducible exact Fr.refl _ _) | (with_reducible assumption) | (with_reducible refine Fr.drew ?_) | (with_reducible refine Fr.drewN ?_ _) | (with_reducible refine Fr.alloc ?_ _) | (with_reducible refine Fr.setL ?_ _ _ _ ?_) | (focus (refine Or.inl ?_; simp; done)) | (focus (refine Or.inr ?_; simp; done)) | (focus (refine Or.inr ?_; simp; omega)) | (focus (refine Or.inr ?_; omega)))); done)
                  · simp only [nth]
                    first | (unfold Is; rfl) | (unfold Any; exact trivial) | exact IsSl.new _ _ _ _ | assumption
                · intro ac wx hf hbs hs hp K hK
                  simp only [waits, holdsA, nth, Is, Any, List.filter_cons, List.filter_nil, List.map_cons, List.map_nil, Region.binds, if_true, true_and, and_true, Nat.reduceAdd, List.getElem?_cons_zero, List.getElem?_cons_succ, Option.bind_some, Array.getD_eq_getD_getElem?] at hp
                  clear hs
                  have cx := kb wx hf
                  clear hf hbs
                  (try simp only [hp])
                  go_simp
                  try dsimp only
                  refine hK.out _ _ ?_ ?_
                  · ((repeat (first | (with_reducible exact Fr.refl _ _) | (with_reducible assumption) | (with_reducible refine Fr.drew ?_) | (with_reducible refine Fr.drewN ?_ _) | (with_reducible refine Fr.alloc ?_ _) | (with_reducible refine Fr.setL ?_ _ _ _ ?_) | (focus (refine Or.inl ?_; simp; done)) | (focus (refine Or.inr ?_; simp; done)) | (focus (refine Or.inr ?_; simp; omega)) | (focus (refine Or.inr ?_; omega)))); done)
                  · simp only [nth]
                    first | (unfold Is; rfl) | (unfold Any; exact trivial) | exact IsSl.new _ _ _ _ | assumption
                · intro ac wx hf hbs hs hp K hK
                  simp only [waits, holdsA, nth, Is, Any, List.filter_cons, List.filter_nil, List.map_cons, List.map_nil, Region.binds, if_true, true_and, and_true, Nat.reduceAdd, List.getElem?_cons_zero, List.getElem?_cons_succ, Option.bind_some, Array.getD_eq_getD_getElem?] at hp
                  clear hs
                  clear hf hbs
                  (try simp only [hp])
                  go_simp
                  try dsimp only
                  refine hK.out _ _ ?_ ?_
                  · ((repeat (first | (with_reducible exact Fr.refl _ _) | (with_reducible assumption) | (with_reducible refine Fr.drew ?_) | (with_reducible refine Fr.drewN ?_ _) | (with_reducible refine Fr.alloc ?_ _) | (with_reducible refine Fr.setL ?_ _ _ _ ?_) | (focus (refine Or.inl ?_; simp; done)) | (focus (refine Or.inr ?_; simp; done)) | (focus (refine Or.inr ?_; simp; omega)) | (focus (refine Or.inr ?_; omega)))); done)
                  · simp only [nth]
                    first | (unfold Is; rfl) | (unfold Any; exact trivial) | exact IsSl.new _ _ _ _ | assumption
              case hD =>
                intro x wx hf hp
                simp only [List.take_succ_cons, List.take_zero, List.drop_succ_cons, List.drop_zero, fill, List.setIfInBounds_toArray, List.set_cons_zero, List.set_cons_succ, Nat.reduceAdd, Act.put]
                simp only [List.range_eq_range', List.range'_succ, List.range'_zero, Nat.zero_add, Nat.add_zero, Nat.reduceAdd, holds, nth, Is, Any, true_and, and_true] at hp
                obtain ⟨x0, x1, x2, x3, x4, ⟨x5, hT6⟩, x6, x7, x8, x9, x10, x11⟩ := hp
                simp only [x0, x1, x2, x3, x4, x5, x6, x7, x8, x9, x10, x11]
                clear x0 x1 x2 x3 x4 x5 x6 x7 x8 x9 x10 x11 kb
                have hM6 := hM.fr hf hbF
                obtain ⟨cm6, fm6⟩ := hM6 kn hkn16
                have hcl6 : ∃ cs t f, wx.heap[bm]? = some (.cells cs t f) := by
                  obtain ⟨cs, t, f, h⟩ := hcl
                  exact ⟨cs, t, f, hf.keeps h hbF⟩
                have hT7 := hT6.atM.setFar hbw hcl6 hbp kn (.bool false)
                have hM7 := hM6.set hkn16 false
                have hcl7 : ∃ cs t f, (wx.setCell ⟨bm, kn, none⟩ (.bool false)).heap[bm]? = some (.cells cs t f) := by
                  obtain ⟨cs, t, f, h⟩ := hcl6
                  exact setCell_cells h _ _
                rw [setB_same mb kn false HMB.out] at hM7
                clear hT hM hcl hM6 hcl6 hT6
                go_wp2
                go_roundw
                case rel => exact ⟨k + 1, _, by simp, by omega, hT7, hM7, hcl7⟩
                case measure => simp [intOf]; omega
            · rw [hmb] at cm
              have kb : ∀ wx, Fr F wr wx → wx.cell? ⟨bm, kn, none⟩ = some (.bool true) := fun wx hf => hf.cell cm hbF
              have HMB := Lib.hid hmb
              clear hmb cm
              have q1 : IntKind.i64.wrap (2 * (kn : Int)) = 2 * (kn : Int) := IntWalk.i64_in _ (by omega)
              have q2 : IntKind.i64.wrap (2 + 2 * (kn : Int)) = 2 + 2 * (kn : Int) := IntWalk.i64_in _ (by omega)
              go_wp2
              refine wp_region_keepsS 5 F (fun w' => AtF w w' p (fullA c 16 (inG a mb)) F) [Is (.pointer (some ⟨p, 0, none⟩)), Is (.int .i64 kn), Is (.int .i64 (2 * kn)), Is (.int .i64 (2 + 2 * kn)), Is (.int .i64 a), IsLv (.int .i64 0) (fun w' => AtF w w' p (fullA c 16 (inG a (setB mb kn false))) F), Is (.bool true), Is (.slice (some ⟨bm, 0, none⟩) 16 16), Is (.int .i64 kn), Is (.pointer (some ⟨bm, kn, none⟩)), Is (.bool true), Is (.bool false)] 12 (by kernel_rfl) (by kernel_rfl) (by kernel_rfl) (by kernel_rfl) (by kernel_rfl) (by kernel_rfl) ?hV ?hB ?hB0 ?hS ?hD
              case hV =>
                repeat (first | exact trivial | exact Is.keeps _ | exact Any.keeps | exact IsSl.keeps _ _ _ | exact IsLv.keeps (fun _ _ f h => AtF.on f h) | refine And.intro ?_ ?_)
              case hB => exact fun _ _ f h => AtF.on f h
              case hB0 => exact hF5
              case hS =>
                (repeat' (first | exact trivial | refine And.intro ?_ ?_))
                · intro ac wx hf hbs hs hp K hK
                  simp only [waits, holdsA, nth, Is, Any, List.filter_cons, List.filter_nil, List.map_cons, List.map_nil, Region.binds, if_true, true_and, and_true, Nat.reduceAdd, List.getElem?_cons_zero, List.getElem?_cons_succ, Option.bind_some, Array.getD_eq_getD_getElem?] at hp
                  have hs7 := hs 7 (by kernel_rfl)
                  simp only [Array.getD_eq_getD_getElem?, List.getElem?_toArray, List.getElem?_cons_succ, List.getElem?_cons_zero, Option.getD_some] at hs7
                  clear hs
                  clear hf hbs
                  (try simp only [hp])
                  go_simp
                  try dsimp only
                  refine hK.out _ _ ?_ ?_
                  · ((repeat (first | (with_reducible exact Fr.refl _ _) | (with_reducible assumption) | (with_reducible refine Fr.drew ?_) | (with_reducible refine Fr.drewN ?_ _) | (with_reducible refine Fr.alloc ?_ _) | (with_reducible refine Fr.setL ?_ _ _ _ ?_) | (focus (refine Or.inl ?_; simp; done)) | (focus (refine Or.inr ?_; simp; done)) | (focus (refine Or.inr ?_; simp; omega)) | (focus (refine Or.inr ?_; omega)))); done)
                  · simp only [nth]
                    first | (unfold Is; rfl) | (unfold Any; exact trivial) | exact IsSl.new _ _ _ _ | assumption
                · intro ac wx hf hbs hs hp K hK
                  simp only [waits, holdsA, nth, Is, Any, List.filter_cons, List.filter_nil, List.map_cons, List.map_nil, Region.binds, if_true, true_and, and_true, Nat.reduceAdd, List.getElem?_cons_zero, List.getElem?_cons_succ, Option.bind_some, Array.getD_eq_getD_getElem?] at hp
                  have hs12 := hs 12 (by kernel_rfl)
                  simp only [Array.getD_eq_getD_getElem?, List.getElem?_toArray, List.getElem?_cons_succ, List.getElem?_cons_zero, Option.getD_some] at hs12
                  clear hs
                  clear hf hbs
                  (try simp only [hp])
                  go_simp
                  try dsimp only
                  refine hK.out _ _ ?_ ?_
                  · ((repeat (first | (with_reducible exact Fr.refl _ _) | (with_reducible assumption) | (with_reducible refine Fr.drew ?_) | (with_reducible refine Fr.drewN ?_ _) | (with_reducible refine Fr.alloc ?_ _) | (with_reducible refine Fr.setL ?_ _ _ _ ?_) | (focus (refine Or.inl ?_; simp; done)) | (focus (refine Or.inr ?_; simp; done)) | (focus (refine Or.inr ?_; simp; omega)) | (focus (refine Or.inr ?_; omega)))); done)
                  · simp only [nth]
                    first | (unfold Is; rfl) | (unfold Any; exact trivial) | exact IsSl.new _ _ _ _ | assumption
                · intro ac wx hf hbs hs hp K hK
                  simp only [waits, holdsA, nth, Is, Any, List.filter_cons, List.filter_nil, List.map_cons, List.map_nil, Region.binds, if_true, true_and, and_true, Nat.reduceAdd, List.getElem?_cons_zero, List.getElem?_cons_succ, Option.bind_some, Array.getD_eq_getD_getElem?] at hp
                  clear hs
                  clear hf hbs
                  (try simp only [hp])
                  go_simp
                  try dsimp only
                  refine hK.out _ _ ?_ ?_
                  · ((repeat (first | (with_reducible exact Fr.refl _ _) | (with_reducible assumption) | (with_reducible refine Fr.drew ?_) | (with_reducible refine Fr.drewN ?_ _) | (with_reducible refine Fr.alloc ?_ _) | (with_reducible refine Fr.setL ?_ _ _ _ ?_) | (focus (refine Or.inl ?_; simp; done)) | (focus (refine Or.inr ?_; simp; done)) | (focus (refine Or.inr ?_; simp; omega)) | (focus (refine Or.inr ?_; omega)))); done)
                  · simp only [nth]
                    first | (unfold Is; rfl) | (unfold Any; exact trivial) | exact IsSl.new _ _ _ _ | assumption
                · intro ac wx hf hbs hs hp K hK
                  simp only [waits, holdsA, nth, Is, Any, List.filter_cons, List.filter_nil, List.map_cons, List.map_nil, Region.binds, if_true, true_and, and_true, Nat.reduceAdd, List.getElem?_cons_zero, List.getElem?_cons_succ, Option.bind_some, Array.getD_eq_getD_getElem?] at hp
                  clear hs
                  clear hf hbs
                  (try simp only [hp])
                  go_simp
                  try dsimp only
                  refine hK.out _ _ ?_ ?_
                  · ((repeat (first | (with_reducible exact Fr.refl _ _) | (with_reducible assumption) | (with_reducible refine Fr.drew ?_) | (with_reducible refine Fr.drewN ?_ _) | (with_reducible refine Fr.alloc ?_ _) | (with_reducible refine Fr.setL ?_ _ _ _ ?_) | (focus (refine Or.inl ?_; simp; done)) | (focus (refine Or.inr ?_; simp; done)) | (focus (refine Or.inr ?_; simp; omega)) | (focus (refine Or.inr ?_; omega)))); done)
                  · simp only [nth]
                    first | (unfold Is; rfl) | (unfold Any; exact trivial) | exact IsSl.new _ _ _ _ | assumption
                · intro ac wx hf hbs hs hp K hK
                  simp only [waits, holdsA, nth, Is, Any, List.filter_cons, List.filter_nil, List.map_cons, List.map_nil, Region.binds, if_true, true_and, and_true, Nat.reduceAdd, List.getElem?_cons_zero, List.getElem?_cons_succ, Option.bind_some, Array.getD_eq_getD_getElem?] at hp
                  have hs9 := hs 9 (by kernel_rfl)
                  simp only [Array.getD_eq_getD_getElem?, List.getElem?_toArray, List.getElem?_cons_succ, List.getElem?_cons_zero, Option.getD_some] at hs9
                  clear hs
                  clear hf hbs
                  (try simp only [hp])
                  go_simp
                  try dsimp only
                  refine hK.out _ _ ?_ ?_
                  · ((repeat (first | (with_reducible exact Fr.refl _ _) | (with_reducible assumption) | (with_reducible refine Fr.drew ?_) | (with_reducible refine Fr.drewN ?_ _) | (with_reducible refine Fr.alloc ?_ _) | (with_reducible refine Fr.setL ?_ _ _ _ ?_) | (focus (refine Or.inl ?_; simp; done)) | (focus (refine Or.inr ?_; simp; done)) | (focus (refine Or.inr ?_; simp; omega)) | (focus (refine Or.inr ?_; omega)))); done)
                  · simp only [nth]
                    first | (unfold Is; rfl) | (unfold Any; exact trivial) | exact IsSl.new _ _ _ _ | assumption
                · intro ac wx hf hbs hs hp K hK
                  simp only [waits, holdsA, nth, Is, Any, List.filter_cons, List.filter_nil, List.map_cons, List.map_nil, Region.binds, if_true, true_and, and_true, Nat.reduceAdd, List.getElem?_cons_zero, List.getElem?_cons_succ, Option.bind_some, Array.getD_eq_getD_getElem?] at hp
                  clear hs
                  have hb5 := hbs rfl
                  go_simp
                  (try simp only [hp])
                  clear hp
                  go_at_call 18
                  refine (Leave_F w _ p _ _ a F hb5).mono ?_
                  rw [leave_full c a mb kn hkn16 hga, HMB.out]
                  (try rw [if_neg (by decide)])
                  (try rw [if_pos rfl])
                  rintro e w' ⟨rfl, hz, fz⟩
                  exact hK.out _ _ fz ⟨rfl, hz⟩
                · intro ac wx hf hbs hs hp K hK
                  simp only [waits, holdsA, nth, Is, Any, List.filter_cons, List.filter_nil, List.map_cons, List.map_nil, Region.binds, if_true, true_and, and_true, Nat.reduceAdd, List.getElem?_cons_zero, List.getElem?_cons_succ, Option.bind_some, Array.getD_eq_getD_getElem?] at hp
                  clear hs
                  simp only [IsLv] at hp
                  replace hp := hp.1
                  clear hf hbs
                  go_simp
                  (try simp only [hp])
                  go_simp
                  try dsimp only
                  refine hK.out _ _ ?_ ?_
                  · ((repeat (first | (with_reducible exact Fr.refl _ _) | (with_reducible assumption) | (with_reducible refine Fr.drew ?_) | (with_reducible refine Fr.drewN ?_ _) | (with_reducible refine Fr.alloc ?_ _) | (with_reducible refine Fr.setL ?_ _ _ _ ?_) | (focus (refine Or.inl ?_; simp; done)) | (focus (refine Or.inr ?_; simp; done)) | (focus (refine Or.inr ?_; simp; omega)) | (focus (refine Or.inr ?_; omega)))); done)
                  · simp only [nth]
                    first | (unfold Is; rfl) | (unfold Any; exact trivial) | exact IsSl.new _ _ _ _ | assumption
                · intro ac wx hf hbs hs hp K hK
                  simp only [waits, holdsA, nth, Is, Any, List.filter_cons, List.filter_nil, List.map_cons, List.map_nil, Region.binds, if_true, true_and, and_true, Nat.reduceAdd, List.getElem?_cons_zero, List.getElem?_cons_succ, Option.bind_some, Array.getD_eq_getD_getElem?] at hp
                  have hs10 := hs 10 (by kernel_rfl)
                  simp only [Array.getD_eq_getD_getElem?, List.getElem?_toArray, List.getElem?_cons_succ, List.getElem?_cons_zero, Option.getD_some] at hs10
                  clear hs
                  clear hf hbs
                  (try simp only [hp])
                  go_simp
                  try dsimp only
                  refine hK.out _ _ ?_ ?_
                  · ((repeat (first | (with_reducible exact Fr.refl _ _) | (with_reducible assumption) | (with_reducible refine Fr.drew ?_) | (with_reducible refine Fr.drewN ?_ _) | (with_reducible refine Fr.alloc ?_ _) | (with_reducible refine Fr.setL ?_ _ _ _ ?_) | (focus (refine Or.inl ?_; simp; done)) | (focus (refine Or.inr ?_; simp; done)) | (focus (refine Or.inr ?_; simp; omega)) | (focus (refine Or.inr ?_; omega)))); done)
                  · simp only [nth]
                    first | (unfold Is; rfl) | (unfold Any; exact trivial) | exact IsSl.new _ _ _ _ | assumption
                · intro ac wx hf hbs hs hp K hK
                  simp only [waits, holdsA, nth, Is, Any, List.filter_cons, List.filter_nil, List.map_cons, List.map_nil, Region.binds, if_true, true_and, and_true, Nat.reduceAdd, List.getElem?_cons_zero, List.getElem?_cons_succ, Option.bind_some, Array.getD_eq_getD_getElem?] at hp
                  have hs12 := hs 12 (by kernel_rfl)
                  simp only [Array.getD_eq_getD_getElem?, List.getElem?_toArray, List.getElem?_cons_succ, List.getElem?_cons_zero, Option.getD_some] at hs12
                  clear hs
                  clear hf hbs
                  (try simp only [hp])
                  go_simp
                  try dsimp only
                  refine hK.out _ _ ?_ ?_
                  · ((repeat (first | (with_reducible exact Fr.refl _ _) | (with_reducible assumption) | (with_reducible refine Fr.drew ?_) | (with_reducible refine Fr.drewN ?_ _) | (with_reducible refine Fr.alloc ?_ _) | (with_reducible refine Fr.setL ?_ _ _ _ ?_) | (focus (refine Or.inl ?_; simp; done)) | (focus (refine Or.inr ?_; simp; done)) | (focus (refine Or.inr ?_; simp; omega)) | (focus (refine Or.inr ?_; omega)))); done)
                  · simp only [nth]
                    first | (unfold Is; rfl) | (unfold Any; exact trivial) | exact IsSl.new _ _ _ _ | assumption
                · intro ac wx hf hbs hs hp K hK
                  simp only [waits, holdsA, nth, Is, Any, List.filter_cons, List.filter_nil, List.map_cons, List.map_nil, Region.binds, if_true, true_and, and_true, Nat.reduceAdd, List.getElem?_cons_zero, List.getElem?_cons_succ, Option.bind_some, Array.getD_eq_getD_getElem?] at hp
                  clear hs
                  clear hf hbs
                  (try simp only [hp])
                  go_simp
                  rw [if_pos (show (kn : Int) < 16 by omega)]
                  try dsimp only
                  refine hK.out _ _ ?_ ?_
                  · ((repeat (first | (with_reducible exact Fr.refl _ _) | (with_reducible assumption) | (with_reducible refine Fr.drew ?_) | (with_reducible refine Fr.drewN ?_ _) | (with_reducible refine Fr.alloc ?_ _) | (with_reducible refine Fr.setL ?_ _ _ _ ?_) | (focus (refine Or.inl ?_; simp; done)) | (focus (refine Or.inr ?_; simp; done)) | (focus (refine Or.inr ?_; simp; omega)) | (focus (refine Or.inr ?_; omega)))); done)
                  · simp only [nth]
                    first | (unfold Is; rfl) | (unfold Any; exact trivial) | exact IsSl.new _ _ _ _ | assumption
                · intro ac wx hf hbs hs hp K hK
                  simp only [waits, holdsA, nth, Is, Any, List.filter_cons, List.filter_nil, List.map_cons, List.map_nil, Region.binds, if_true, true_and, and_true, Nat.reduceAdd, List.getElem?_cons_zero, List.getElem?_cons_succ, Option.bind_some, Array.getD_eq_getD_getElem?] at hp
                  clear hs
                  have cx := kb wx hf
                  clear hf hbs
                  (try simp only [hp])
                  go_simp
                  try dsimp only
                  refine hK.out _ _ ?_ ?_
                  · ((repeat (first | (with_reducible exact Fr.refl _ _) | (with_reducible assumption) | (with_reducible refine Fr.drew ?_) | (with_reducible refine Fr.drewN ?_ _) | (with_reducible refine Fr.alloc ?_ _) | (with_reducible refine Fr.setL ?_ _ _ _ ?_) | (focus (refine Or.inl ?_; simp; done)) | (focus (refine Or.inr ?_; simp; done)) | (focus (refine Or.inr ?_; simp; omega)) | (focus (refine Or.inr ?_; omega)))); done)
                  · simp only [nth]
                    first | (unfold Is; rfl) | (unfold Any; exact trivial) | exact IsSl.new _ _ _ _ | assumption
                · intro ac wx hf hbs hs hp K hK
                  simp only [waits, holdsA, nth, Is, Any, List.filter_cons, List.filter_nil, List.map_cons, List.map_nil, Region.binds, if_true, true_and, and_true, Nat.reduceAdd, List.getElem?_cons_zero, List.getElem?_cons_succ, Option.bind_some, Array.getD_eq_getD_getElem?] at hp
                  clear hs
                  clear hf hbs
                  (try simp only [hp])
                  go_simp
                  try dsimp only
                  refine hK.out _ _ ?_ ?_
                  · ((repeat (first | (with_reducible exact Fr.refl _ _) | (with_reducible assumption) | (with_reducible refine Fr.drew ?_) | (with_reducible refine Fr.drewN ?_ _) | (with_reducible refine Fr.alloc ?_ _) | (with_reducible refine Fr.setL ?_ _ _ _ ?_) | (focus (refine Or.inl ?_; simp; done)) | (focus (refine Or.inr ?_; simp; done)) | (focus (refine Or.inr ?_; simp; omega)) | (focus (refine Or.inr ?_; omega)))); done)
                  · simp only [nth]
                    first | (unfold Is; rfl) | (unfold Any; exact trivial) | exact IsSl.new _ _ _ _ | assumption
              case hD =>
                intro x wx hf hp
                simp only [List.take_succ_cons, List.take_zero, List.drop_succ_cons, List.drop_zero, fill, List.setIfInBounds_toArray, List.set_cons_zero, List.set_cons_succ, Nat.reduceAdd, Act.put]
                simp only [List.range_eq_range', List.range'_succ, List.range'_zero, Nat.zero_add, Nat.add_zero, Nat.reduceAdd, holds, nth, Is, Any, true_and, and_true] at hp
                obtain ⟨x0, x1, x2, x3, x4, ⟨x5, hT6⟩, x6, x7, x8, x9, x10, x11⟩ := hp
                simp only [x0, x1, x2, x3, x4, x5, x6, x7, x8, x9, x10, x11]
                clear x0 x1 x2 x3 x4 x5 x6 x7 x8 x9 x10 x11 kb
                have hM6 := hM.fr hf hbF
                obtain ⟨cm6, fm6⟩ := hM6 kn hkn16
                have hcl6 : ∃ cs t f, wx.heap[bm]? = some (.cells cs t f) := by
                  obtain ⟨cs, t, f, h⟩ := hcl
                  exact ⟨cs, t, f, hf.keeps h hbF⟩
                have hT7 := hT6.atM.setFar hbw hcl6 hbp kn (.bool false)
                have hM7 := hM6.set hkn16 false
                have hcl7 : ∃ cs t f, (wx.setCell ⟨bm, kn, none⟩ (.bool false)).heap[bm]? = some (.cells cs t f) := by
                  obtain ⟨cs, t, f, h⟩ := hcl6
                  exact setCell_cells h _ _
                skip
                clear hT hM hcl hM6 hcl6 hT6
                go_wp2
                go_roundw
                case rel => exact ⟨k + 1, _, by simp, by omega, hT7, hM7, hcl7⟩
                case measure => simp [intOf]; omega
            · rw [hmb] at cm
              have kb : ∀ wx, Fr F wr wx → wx.cell? ⟨bm, kn, none⟩ = some (.bool false) := fun wx hf => hf.cell cm hbF
              have HMB := Lib.hid hmb
              clear hmb cm
              have q1 : IntKind.i64.wrap (2 * (kn : Int)) = 2 * (kn : Int) := IntWalk.i64_in _ (by omega)
              have q2 : IntKind.i64.wrap (2 + 2 * (kn : Int)) = 2 + 2 * (kn : Int) := IntWalk.i64_in _ (by omega)
              go_wp2
              refine wp_region_keepsS 5 F (fun w' => AtF w w' p (fullA c 16 (inG a mb)) F) [Is (.pointer (some ⟨p, 0, none⟩)), Is (.int .i64 kn), Is (.int .i64 (2 * kn)), Is (.int .i64 (2 + 2 * kn)), Is (.int .i64 a), IsLv (.int .i64 0) (fun w' => AtF w w' p (fullA c 16 (inG a (setB mb kn true))) F), Is (.bool true), Is (.slice (some ⟨bm, 0, none⟩) 16 16), Is (.int .i64 kn), Is (.pointer (some ⟨bm, kn, none⟩)), Is (.bool false), Is (.bool false)] 12 (by kernel_rfl) (by kernel_rfl) (by kernel_rfl) (by kernel_rfl) (by kernel_rfl) (by kernel_rfl) ?hV ?hB ?hB0 ?hS ?hD
              case hV =>
                repeat (first | exact trivial | exact Is.keeps _ | exact Any.keeps | exact IsSl.keeps _ _ _ | exact IsLv.keeps (fun _ _ f h => AtF.on f h) | refine And.intro ?_ ?_)
              case hB => exact fun _ _ f h => AtF.on f h
              case hB0 => exact hF5
              case hS =>
                (repeat' (first | exact trivial | refine And.intro ?_ ?_))
                · intro ac wx hf hbs hs hp K hK
                  simp only [waits, holdsA, nth, Is, Any, List.filter_cons, List.filter_nil, List.map_cons, List.map_nil, Region.binds, if_true, true_and, and_true, Nat.reduceAdd, List.getElem?_cons_zero, List.getElem?_cons_succ, Option.bind_some, Array.getD_eq_getD_getElem?] at hp
                  have hs7 := hs 7 (by kernel_rfl)
                  simp only [Array.getD_eq_getD_getElem?, List.getElem?_toArray, List.getElem?_cons_succ, List.getElem?_cons_zero, Option.getD_some] at hs7
                  clear hs
                  clear hf hbs
                  (try simp only [hp])
                  go_simp
                  try dsimp only
                  refine hK.out _ _ ?_ ?_
                  · ((repeat (first | (with_reducible exact Fr.refl _ _) | (with_reducible assumption) | (with_reducible refine Fr.drew ?_) | (with_reducible refine Fr.drewN ?_ _) | (with_reducible refine Fr.alloc ?_ _) | (with_reducible refine Fr.setL ?_ _ _ _ ?_) | (focus (refine Or.inl ?_; simp; done)) | (focus (refine Or.inr ?_; simp; done)) | (focus (refine Or.inr ?_; simp; omega)) | (focus (refine Or.inr ?_; omega)))); done)
                  · simp only [nth]
                    first | (unfold Is; rfl) | (unfold Any; exact trivial) | exact IsSl.new _ _ _ _ | assumption
                · intro ac wx hf hbs hs hp K hK
                  simp only [waits, holdsA, nth, Is, Any, List.filter_cons, List.filter_nil, List.map_cons, List.map_nil, Region.binds, if_true, true_and, and_true, Nat.reduceAdd, List.getElem?_cons_zero, List.getElem?_cons_succ, Option.bind_some, Array.getD_eq_getD_getElem?] at hp
                  have hs12 := hs 12 (by kernel_rfl)
                  simp only [Array.getD_eq_getD_getElem?, List.getElem?_toArray, List.getElem?_cons_succ, List.getElem?_cons_zero, Option.getD_some] at hs12
                  clear hs
                  clear hf hbs
                  (try simp only [hp])
                  go_simp
                  try dsimp only
                  refine hK.out _ _ ?_ ?_
                  · ((repeat (first | (with_reducible exact Fr.refl _ _) | (with_reducible assumption) | (with_reducible refine Fr.drew ?_) | (with_reducible refine Fr.drewN ?_ _) | (with_reducible refine Fr.alloc ?_ _) | (with_reducible refine Fr.setL ?_ _ _ _ ?_) | (focus (refine Or.inl ?_; simp; done)) | (focus (refine Or.inr ?_; simp; done)) | (focus (refine Or.inr ?_; simp; omega)) | (focus (refine Or.inr ?_; omega)))); done)
                  · simp only [nth]
                    first | (unfold Is; rfl) | (unfold Any; exact trivial) | exact IsSl.new _ _ _ _ | assumption
                · intro ac wx hf hbs hs hp K hK
                  simp only [waits, holdsA, nth, Is, Any, List.filter_cons, List.filter_nil, List.map_cons, List.map_nil, Region.binds, if_true, true_and, and_true, Nat.reduceAdd, List.getElem?_cons_zero, List.getElem?_cons_succ, Option.bind_some, Array.getD_eq_getD_getElem?] at hp
                  clear hs
                  clear hf hbs
                  (try simp only [hp])
                  go_simp
                  try dsimp only
                  refine hK.out _ _ ?_ ?_
                  · ((repeat (first | (with_reducible exact Fr.refl _ _) | (with_reducible assumption) | (with_reducible refine Fr.drew ?_) | (with_reducible refine Fr.drewN ?_ _) | (with_reducible refine Fr.alloc ?_ _) | (with_reducible refine Fr.setL ?_ _ _ _ ?_) | (focus (refine Or.inl ?_; simp; done)) | (focus (refine Or.inr ?_; simp; done)) | (focus (refine Or.inr ?_; simp; omega)) | (focus (refine Or.inr ?_; omega)))); done)
                  · simp only [nth]
                    first | (unfold Is; rfl) | (unfold Any; exact trivial) | exact IsSl.new _ _ _ _ | assumption
                · intro ac wx hf hbs hs hp K hK
                  simp only [waits, holdsA, nth, Is, Any, List.filter_cons, List.filter_nil, List.map_cons, List.map_nil, Region.binds, if_true, true_and, and_true, Nat.reduceAdd, List.getElem?_cons_zero, List.getElem?_cons_succ, Option.bind_some, Array.getD_eq_getD_getElem?] at hp
                  clear hs
                  clear hf hbs
                  (try simp only [hp])
                  go_simp
                  try dsimp only
                  refine hK.out _ _ ?_ ?_
                  · ((repeat (first | (with_reducible exact Fr.refl _ _) | (with_reducible assumption) | (with_reducible refine Fr.drew ?_) | (with_reducible refine Fr.drewN ?_ _) | (with_reducible refine Fr.alloc ?_ _) | (with_reducible refine Fr.setL ?_ _ _ _ ?_) | (focus (refine Or.inl ?_; simp; done)) | (focus (refine Or.inr ?_; simp; done)) | (focus (refine Or.inr ?_; simp; omega)) | (focus (refine Or.inr ?_; omega)))); done)
                  · simp only [nth]
                    first | (unfold Is; rfl) | (unfold Any; exact trivial) | exact IsSl.new _ _ _ _ | assumption
                · intro ac wx hf hbs hs hp K hK
                  simp only [waits, holdsA, nth, Is, Any, List.filter_cons, List.filter_nil, List.map_cons, List.map_nil, Region.binds, if_true, true_and, and_true, Nat.reduceAdd, List.getElem?_cons_zero, List.getElem?_cons_succ, Option.bind_some, Array.getD_eq_getD_getElem?] at hp
                  have hs9 := hs 9 (by kernel_rfl)
                  simp only [Array.getD_eq_getD_getElem?, List.getElem?_toArray, List.getElem?_cons_succ, List.getElem?_cons_zero, Option.getD_some] at hs9
                  clear hs
                  clear hf hbs
                  (try simp only [hp])
                  go_simp
                  try dsimp only
                  refine hK.out _ _ ?_ ?_
                  · ((repeat (first | (with_reducible exact Fr.refl _ _) | (with_reducible assumption) | (with_reducible refine Fr.drew ?_) | (with_reducible refine Fr.drewN ?_ _) | (with_reducible refine Fr.alloc ?_ _) | (with_reducible refine Fr.setL ?_ _ _ _ ?_) | (focus (refine Or.inl ?_; simp; done)) | (focus (refine Or.inr ?_; simp; done)) | (focus (refine Or.inr ?_; simp; omega)) | (focus (refine Or.inr ?_; omega)))); done)
                  · simp only [nth]
                    first | (unfold Is; rfl) | (unfold Any; exact trivial) | exact IsSl.new _ _ _ _ | assumption
                · intro ac wx hf hbs hs hp K hK
                  simp only [waits, holdsA, nth, Is, Any, List.filter_cons, List.filter_nil, List.map_cons, List.map_nil, Region.binds, if_true, true_and, and_true, Nat.reduceAdd, List.getElem?_cons_zero, List.getElem?_cons_succ, Option.bind_some, Array.getD_eq_getD_getElem?] at hp
                  clear hs
                  have hb5 := hbs rfl
                  go_simp
                  (try simp only [hp])
                  clear hp
                  go_at_call 15
                  refine (Join_F w _ p _ _ a F hb5).mono ?_
                  rw [join_full c a mb kn hkn16 hga, HMB.out]
                  (try rw [if_neg (by decide)])
                  (try rw [if_pos rfl])
                  rintro e w' ⟨rfl, hz, fz⟩
                  exact hK.out _ _ fz ⟨rfl, hz⟩
                · intro ac wx hf hbs hs hp K hK
                  simp only [waits, holdsA, nth, Is, Any, List.filter_cons, List.filter_nil, List.map_cons, List.map_nil, Region.binds, if_true, true_and, and_true, Nat.reduceAdd, List.getElem?_cons_zero, List.getElem?_cons_succ, Option.bind_some, Array.getD_eq_getD_getElem?] at hp
                  clear hs
                  simp only [IsLv] at hp
                  replace hp := hp.1
                  clear hf hbs
                  go_simp
                  (try simp only [hp])
                  go_simp
                  try dsimp only
                  refine hK.out _ _ ?_ ?_
                  · ((repeat (first | (with_reducible exact Fr.refl _ _) | (with_reducible assumption) | (with_reducible refine Fr.drew ?_) | (with_reducible refine Fr.drewN ?_ _) | (with_reducible refine Fr.alloc ?_ _) | (with_reducible refine Fr.setL ?_ _ _ _ ?_) | (focus (refine Or.inl ?_; simp; done)) | (focus (refine Or.inr ?_; simp; done)) | (focus (refine Or.inr ?_; simp; omega)) | (focus (refine Or.inr ?_; omega)))); done)
                  · simp only [nth]
                    first | (unfold Is; rfl) | (unfold Any; exact trivial) | exact IsSl.new _ _ _ _ | assumption
                · intro ac wx hf hbs hs hp K hK
                  simp only [waits, holdsA, nth, Is, Any, List.filter_cons, List.filter_nil, List.map_cons, List.map_nil, Region.binds, if_true, true_and, and_true, Nat.reduceAdd, List.getElem?_cons_zero, List.getElem?_cons_succ, Option.bind_some, Array.getD_eq_getD_getElem?] at hp
                  have hs10 := hs 10 (by kernel_rfl)
                  simp only [Array.getD_eq_getD_getElem?, List.getElem?_toArray, List.getElem?_cons_succ, List.getElem?_cons_zero, Option.getD_some] at hs10
                  clear hs
                  clear hf hbs
                  (try simp only [hp])
                  go_simp
                  try dsimp only
                  refine hK.out _ _ ?_ ?_
                  · ((repeat (first | (with_reducible exact Fr.refl _ _) | (with_reducible assumption) | (with_reducible refine Fr.drew ?_) | (with_reducible refine Fr.drewN ?_ _) | (with_reducible refine Fr.alloc ?_ _) | (with_reducible refine Fr.setL ?_ _ _ _ ?_) | (focus (refine Or.inl ?_; simp; done)) | (focus (refine Or.inr ?_; simp; done)) | (focus (refine Or.inr ?_; simp; omega)) | (focus (refine Or.inr ?_; omega)))); done)
                  · simp only [nth]
                    first | (unfold Is; rfl) | (unfold Any; exact trivial) | exact IsSl.new _ _ _ _ | assumption
                · intro ac wx hf hbs hs hp K hK
                  simp only [waits, holdsA, nth, Is, Any, List.filter_cons, List.filter_nil, List.map_cons, List.map_nil, Region.binds, if_true, true_and, and_true, Nat.reduceAdd, List.getElem?_cons_zero, List.getElem?_cons_succ, Option.bind_some, Array.getD_eq_getD_getElem?] at hp
                  have hs12 := hs 12 (by kernel_rfl)
                  simp only [Array.getD_eq_getD_getElem?, List.getElem?_toArray, List.getElem?_cons_succ, List.getElem?_cons_zero, Option.getD_some] at hs12
                  clear hs
                  clear hf hbs
                  (try simp only [hp])
                  go_simp
                  try dsimp only
                  refine hK.out _ _ ?_ ?_
                  · ((repeat (first | (with_reducible exact Fr.refl _ _) | (with_reducible assumption) | (with_reducible refine Fr.drew ?_) | (with_reducible refine Fr.drewN ?_ _) | (with_reducible refine Fr.alloc ?_ _) | (with_reducible refine Fr.setL ?_ _ _ _ ?_) | (focus (refine Or.inl ?_; simp; done)) | (focus (refine Or.inr ?_; simp; done)) | (focus (refine Or.inr ?_; simp; omega)) | (focus (refine Or.inr ?_; omega)))); done)
                  · simp only [nth]
                    first | (unfold Is; rfl) | (unfold Any; exact trivial) | exact IsSl.new _ _ _ _ | assumption
                · intro ac wx hf hbs hs hp K hK
                  simp only [waits, holdsA, nth, Is, Any, List.filter_cons, List.filter_nil, List.map_cons, List.map_nil, Region.binds, if_true, true_and, and_true, Nat.reduceAdd, List.getElem?_cons_zero, List.getElem?_cons_succ, Option.bind_some, Array.getD_eq_getD_getElem?] at hp
                  clear hs
                  clear hf hbs
                  (try simp only [hp])
                  go_simp
                  rw [if_pos (show (kn : Int) < 16 by omega)]
                  try dsimp only
                  refine hK.out _ _ ?_ ?_
                  · ((repeat (first | (with_reducible exact Fr.refl _ _) | (with_reducible assumption) | (with_reducible refine Fr.drew ?_) | (with_reducible refine Fr.drewN ?_ _) | (with_reducible refine Fr.alloc ?_ _) | (with_reducible refine Fr.setL ?_ _ _ _ ?_) | (focus (refine Or.inl ?_; simp; done)) | (focus (refine Or.inr ?_; simp; done)) | (focus (refine Or.inr ?_; simp; omega)) | (focus (refine Or.inr ?_; omega)))); done)
                  · simp only [nth]
                    first | (unfold Is; rfl) | (unfold Any; exact trivial) | exact IsSl.new _ _ _ _ | assumption
                · intro ac wx hf hbs hs hp K hK
                  simp only [waits, holdsA, nth, Is, Any, List.filter_cons, List.filter_nil, List.map_cons, List.map_nil, Region.binds, if_true, true_and, and_true, Nat.reduceAdd, List.getElem?_cons_zero, List.getElem?_cons_succ, Option.bind_some, Array.getD_eq_getD_getElem?] at hp
                  clear hs
                  have cx := kb wx hf
                  clear hf hbs
                  (try simp only [hp])
                  go_simp
                  try dsimp only
                  refine hK.out _ _ ?_ ?_
                  · ((repeat (first | (with_reducible exact Fr.refl _ _) | (with_reducible assumption) | (with_reducible refine Fr.drew ?_) | (with_reducible refine Fr.drewN ?_ _) | (with_reducible refine Fr.alloc ?_ _) | (with_reducible refine Fr.setL ?_ _ _ _ ?_) | (focus (refine Or.inl ?_; simp; done)) | (focus (refine Or.inr ?_; simp; done)) | (focus (refine Or.inr ?_; simp; omega)) | (focus (refine Or.inr ?_; omega)))); done)
                  · simp only [nth]
                    first | (unfold Is; rfl) | (unfold Any; exact trivial) | exact IsSl.new _ _ _ _ | assumption
                · intro ac wx hf hbs hs hp K hK
                  simp only [waits, holdsA, nth, Is, Any, List.filter_cons, List.filter_nil, List.map_cons, List.map_nil, Region.binds, if_true, true_and, and_true, Nat.reduceAdd, List.getElem?_cons_zero, List.getElem?_cons_succ, Option.bind_some, Array.getD_eq_getD_getElem?] at hp
                  clear hs
                  clear hf hbs
                  (try simp only [hp])
                  go_simp
                  try dsimp only
                  refine hK.out _ _ ?_ ?_
                  · ((repeat (first | (with_reducible exact Fr.refl _ _) | (with_reducible assumption) | (with_reducible refine Fr.drew ?_) | (with_reducible refine Fr.drewN ?_ _) | (with_reducible refine Fr.alloc ?_ _) | (with_reducible refine Fr.setL ?_ _ _ _ ?_) | (focus (refine Or.inl ?_; simp; done)) | (focus (refine Or.inr ?_; simp; done)) | (focus (refine Or.inr ?_; simp; omega)) | (focus (refine Or.inr ?_; omega)))); done)
                  · simp only [nth]
                    first | (unfold Is; rfl) | (unfold Any; exact trivial) | exact IsSl.new _ _ _ _ | assumption
              case hD =>
                intro x wx hf hp
                simp only [List.take_succ_cons, List.take_zero, List.drop_succ_cons, List.drop_zero, fill, List.setIfInBounds_toArray, List.set_cons_zero, List.set_cons_succ, Nat.reduceAdd, Act.put]
                simp only [List.range_eq_range', List.range'_succ, List.range'_zero, Nat.zero_add, Nat.add_zero, Nat.reduceAdd, holds, nth, Is, Any, true_and, and_true] at hp
                obtain ⟨x0, x1, x2, x3, x4, ⟨x5, hT6⟩, x6, x7, x8, x9, x10, x11⟩ := hp
                simp only [x0, x1, x2, x3, x4, x5, x6, x7, x8, x9, x10, x11]
                clear x0 x1 x2 x3 x4 x5 x6 x7 x8 x9 x10 x11 kb
                have hM6 := hM.fr hf hbF
                obtain ⟨cm6, fm6⟩ := hM6 kn hkn16
                have hcl6 : ∃ cs t f, wx.heap[bm]? = some (.cells cs t f) := by
                  obtain ⟨cs, t, f, h⟩ := hcl
                  exact ⟨cs, t, f, hf.keeps h hbF⟩
                have hT7 := hT6.atM.setFar hbw hcl6 hbp kn (.bool true)
                have hM7 := hM6.set hkn16 true
                have hcl7 : ∃ cs t f, (wx.setCell ⟨bm, kn, none⟩ (.bool true)).heap[bm]? = some (.cells cs t f) := by
                  obtain ⟨cs, t, f, h⟩ := hcl6
                  exact setCell_cells h _ _
                skip
                clear hT hM hcl hM6 hcl6 hT6
                go_wp2
                go_roundw
                case rel => exact ⟨k + 1, _, by simp, by omega, hT7, hM7, hcl7⟩
                case measure => simp [intOf]; omega
            · rw [hmb] at cm
              have kb : ∀ wx, Fr F wr wx → wx.cell? ⟨bm, kn, none⟩ = some (.bool true) := fun wx hf => hf.cell cm hbF
              have HMB := Lib.hid hmb
              clear hmb cm
              have q1 : IntKind.i64.wrap (2 * (kn : Int)) = 2 * (kn : Int) := IntWalk.i64_in _ (by omega)
              have q2 : IntKind.i64.wrap (2 + 2 * (kn : Int)) = 2 + 2 * (kn : Int) := IntWalk.i64_in _ (by omega)
              go_wp2
              refine wp_region_keepsS 5 F (fun w' => AtF w w' p (fullA c 16 (inG a mb)) F) [Is (.pointer (some ⟨p, 0, none⟩)), Is (.int .i64 kn), Is (.int .i64 (2 * kn)), Is (.int .i64 (2 + 2 * kn)), Is (.int .i64 a), IsLv (.int .i64 8) (fun w' => AtF w w' p (fullA c 16 (inG a mb)) F), Is (.bool false), Is (.slice (some ⟨bm, 0, none⟩) 16 16), Is (.int .i64 kn), Is (.pointer (some ⟨bm, kn, none⟩)), Is (.bool true), Is (.bool false)] 12 (by kernel_rfl) (by kernel_rfl) (by kernel_rfl) (by kernel_rfl) (by kernel_rfl) (by kernel_rfl) ?hV ?hB ?hB0 ?hS ?hD
              case hV =>
                repeat (first | exact trivial | exact Is.keeps _ | exact Any.keeps | exact IsSl.keeps _ _ _ | exact IsLv.keeps (fun _ _ f h => AtF.on f h) | refine And.intro ?_ ?_)
              case hB => exact fun _ _ f h => AtF.on f h
              case hB0 => exact hF5
              case hS =>
                (repeat' (first | exact trivial | refine And.intro ?_ ?_))
                · intro ac wx hf hbs hs hp K hK
                  simp only [waits, holdsA, nth, Is, Any, List.filter_cons, List.filter_nil, List.map_cons, List.map_nil, Region.binds, if_true, true_and, and_true, Nat.reduceAdd, List.getElem?_cons_zero, List.getElem?_cons_succ, Option.bind_some, Array.getD_eq_getD_getElem?] at hp
                  have hs7 := hs 7 (by kernel_rfl)
                  simp only [Array.getD_eq_getD_getElem?, List.getElem?_toArray, List.getElem?_cons_succ, List.getElem?_cons_zero, Option.getD_some] at hs7
                  clear hs
                  clear hf hbs
                  (try simp only [hp])
                  go_simp
                  try dsimp only
                  refine hK.out _ _ ?_ ?_
                  · ((repeat (first | (with_reducible exact Fr.refl _ _) | (with_reducible assumption) | (with_reducible refine Fr.drew ?_) | (with_reducible refine Fr.drewN ?_ _) | (with_reducible refine Fr.alloc ?_ _) | (with_reducible refine Fr.setL ?_ _ _ _ ?_) | (focus (refine Or.inl ?_; simp; done)) | (focus (refine Or.inr ?_; simp; done)) | (focus (refine Or.inr ?_; simp; omega)) | (focus (refine Or.inr ?_; omega)))); done)
                  · simp only [nth]
                    first | (unfold Is; rfl) | (unfold Any; exact trivial) | exact IsSl.new _ _ _ _ | assumption
                · intro ac wx hf hbs hs hp K hK
                  simp only [waits, holdsA, nth, Is, Any, List.filter_cons, List.filter_nil, List.map_cons, List.map_nil, Region.binds, if_true, true_and, and_true, Nat.reduceAdd, List.getElem?_cons_zero, List.getElem?_cons_succ, Option.bind_some, Array.getD_eq_getD_getElem?] at hp
                  have hs12 := hs 12 (by kernel_rfl)
                  simp only [Array.getD_eq_getD_getElem?, List.getElem?_toArray, List.getElem?_cons_succ, List.getElem?_cons_zero, Option.getD_some] at hs12
                  clear hs
                  clear hf hbs
                  (try simp only [hp])
                  go_simp
                  try dsimp only
                  refine hK.out _ _ ?_ ?_
                  · ((repeat (first | (with_reducible exact Fr.refl _ _) | (with_reducible assumption) | (with_reducible refine Fr.drew ?_) | (with_reducible refine Fr.drewN ?_ _) | (with_reducible refine Fr.alloc ?_ _) | (with_reducible refine Fr.setL ?_ _ _ _ ?_) | (focus (refine Or.inl ?_; simp; done)) | (focus (refine Or.inr ?_; simp; done)) | (focus (refine Or.inr ?_; simp; omega)) | (focus (refine Or.inr ?_; omega)))); done)
                  · simp only [nth]
                    first | (unfold Is; rfl) | (unfold Any; exact trivial) | exact IsSl.new _ _ _ _ | assumption
                · intro ac wx hf hbs hs hp K hK
                  simp only [waits, holdsA, nth, Is, Any, List.filter_cons, List.filter_nil, List.map_cons, List.map_nil, Region.binds, if_true, true_and, and_true, Nat.reduceAdd, List.getElem?_cons_zero, List.getElem?_cons_succ, Option.bind_some, Array.getD_eq_getD_getElem?] at hp
                  clear hs
                  clear hf hbs
                  (try simp only [hp])
                  go_simp
                  try dsimp only
                  refine hK.out _ _ ?_ ?_
                  · ((repeat (first | (with_reducible exact Fr.refl _ _) | (with_reducible assumption) | (with_reducible refine Fr.drew ?_) | (with_reducible refine Fr.drewN ?_ _) | (with_reducible refine Fr.alloc ?_ _) | (with_reducible refine Fr.setL ?_ _ _ _ ?_) | (focus (refine Or.inl ?_; simp; done)) | (focus (refine Or.inr ?_; simp; done)) | (focus (refine Or.inr ?_; simp; omega)) | (focus (refine Or.inr ?_; omega)))); done)
                  · simp only [nth]
                    first | (unfold Is; rfl) | (unfold Any; exact trivial) | exact IsSl.new _ _ _ _ | assumption
                · intro ac wx hf hbs hs hp K hK
                  simp only [waits, holdsA, nth, Is, Any, List.filter_cons, List.filter_nil, List.map_cons, List.map_nil, Region.binds, if_true, true_and, and_true, Nat.reduceAdd, List.getElem?_cons_zero, List.getElem?_cons_succ, Option.bind_some, Array.getD_eq_getD_getElem?] at hp
                  clear hs
                  clear hf hbs
                  (try simp only [hp])
                  go_simp
                  try dsimp only
                  refine hK.out _ _ ?_ ?_
                  · ((repeat (first | (with_reducible exact Fr.refl _ _) | (with_reducible assumption) | (with_reducible refine Fr.drew ?_) | (with_reducible refine Fr.drewN ?_ _) | (with_reducible refine Fr.alloc ?_ _) | (with_reducible refine Fr.setL ?_ _ _ _ ?_) | (focus (refine Or.inl ?_; simp; done)) | (focus (refine Or.inr ?_; simp; done)) | (focus (refine Or.inr ?_; simp; omega)) | (focus (refine Or.inr ?_; omega)))); done)
                  · simp only [nth]
                    first | (unfold Is; rfl) | (unfold Any; exact trivial) | exact IsSl.new _ _ _ _ | assumption
                · intro ac wx hf hbs hs hp K hK
                  simp only [waits, holdsA, nth, Is, Any, List.filter_cons, List.filter_nil, List.map_cons, List.map_nil, Region.binds, if_true, true_and, and_true, Nat.reduceAdd, List.getElem?_cons_zero, List.getElem?_cons_succ, Option.bind_some, Array.getD_eq_getD_getElem?] at hp
                  have hs9 := hs 9 (by kernel_rfl)
                  simp only [Array.getD_eq_getD_getElem?, List.getElem?_toArray, List.getElem?_cons_succ, List.getElem?_cons_zero, Option.getD_some] at hs9
                  clear hs
                  clear hf hbs
                  (try simp only [hp])
                  go_simp
                  try dsimp only
                  refine hK.out _ _ ?_ ?_
                  · ((repeat (first | (with_reducible exact Fr.refl _ _) | (with_reducible assumption) | (with_reducible refine Fr.drew ?_) | (with_reducible refine Fr.drewN ?_ _) | (with_reducible refine Fr.alloc ?_ _) | (with_reducible refine Fr.setL ?_ _ _ _ ?_) | (focus (refine Or.inl ?_; simp; done)) | (focus (refine Or.inr ?_; simp; done)) | (focus (refine Or.inr ?_; simp; omega)) | (focus (refine Or.inr ?_; omega)))); done)
                  · simp only [nth]
                    first | (unfold Is; rfl) | (unfold Any; exact trivial) | exact IsSl.new _ _ _ _ | assumption
                · intro ac wx hf hbs hs hp K hK
                  simp only [waits, holdsA, nth, Is, Any, List.filter_cons, List.filter_nil, List.map_cons, List.map_nil, Region.binds, if_true, true_and, and_true, Nat.reduceAdd, List.getElem?_cons_zero, List.getElem?_cons_succ, Option.bind_some, Array.getD_eq_getD_getElem?] at hp
                  clear hs
                  have hb5 := hbs rfl
                  go_simp
                  (try simp only [hp])
                  clear hp
                  go_at_call 15
                  refine (Join_F w _ p _ _ a F hb5).mono ?_
                  rw [join_full c a mb kn hkn16 hga, HMB.out]
                  (try rw [if_neg (by decide)])
                  (try rw [if_pos rfl])
                  rintro e w' ⟨rfl, hz, fz⟩
                  exact hK.out _ _ fz ⟨rfl, hz⟩
                · intro ac wx hf hbs hs hp K hK
                  simp only [waits, holdsA, nth, Is, Any, List.filter_cons, List.filter_nil, List.map_cons, List.map_nil, Region.binds, if_true, true_and, and_true, Nat.reduceAdd, List.getElem?_cons_zero, List.getElem?_cons_succ, Option.bind_some, Array.getD_eq_getD_getElem?] at hp
                  clear hs
                  simp only [IsLv] at hp
                  replace hp := hp.1
                  clear hf hbs
                  go_simp
                  (try simp only [hp])
                  go_simp
                  try dsimp only
                  refine hK.out _ _ ?_ ?_
                  · ((repeat (first | (with_reducible exact Fr.refl _ _) | (with_reducible assumption) | (with_reducible refine Fr.drew ?_) | (with_reducible refine Fr.drewN ?_ _) | (with_reducible refine Fr.alloc ?_ _) | (with_reducible refine Fr.setL ?_ _ _ _ ?_) | (focus (refine Or.inl ?_; simp; done)) | (focus (refine Or.inr ?_; simp; done)) | (focus (refine Or.inr ?_; simp; omega)) | (focus (refine Or.inr ?_; omega)))); done)
                  · simp only [nth]
                    first | (unfold Is; rfl) | (unfold Any; exact trivial) | exact IsSl.new _ _ _ _ | assumption
                · intro ac wx hf hbs hs hp K hK
                  simp only [waits, holdsA, nth, Is, Any, List.filter_cons, List.filter_nil, List.map_cons, List.map_nil, Region.binds, if_true, true_and, and_true, Nat.reduceAdd, List.getElem?_cons_zero, List.getElem?_cons_succ, Option.bind_some, Array.getD_eq_getD_getElem?] at hp
                  have hs10 := hs 10 (by kernel_rfl)
                  simp only [Array.getD_eq_getD_getElem?, List.getElem?_toArray, List.getElem?_cons_succ, List.getElem?_cons_zero, Option.getD_some] at hs10
                  clear hs
                  clear hf hbs
                  (try simp only [hp])
                  go_simp
                  try dsimp only
                  refine hK.out _ _ ?_ ?_
                  · ((repeat (first | (with_reducible exact Fr.refl _ _) | (with_reducible assumption) | (with_reducible refine Fr.drew ?_) | (with_reducible refine Fr.drewN ?_ _) | (with_reducible refine Fr.alloc ?_ _) | (with_reducible refine Fr.setL ?_ _ _ _ ?_) | (focus (refine Or.inl ?_; simp; done)) | (focus (refine Or.inr ?_; simp; done)) | (focus (refine Or.inr ?_; simp; omega)) | (focus (refine Or.inr ?_; omega)))); done)
                  · simp only [nth]
                    first | (unfold Is; rfl) | (unfold Any; exact trivial) | exact IsSl.new _ _ _ _ | assumption
                · intro ac wx hf hbs hs hp K hK
                  simp only [waits, holdsA, nth, Is, Any, List.filter_cons, List.filter_nil, List.map_cons, List.map_nil, Region.binds, if_true, true_and, and_true, Nat.reduceAdd, List.getElem?_cons_zero, List.getElem?_cons_succ, Option.bind_some, Array.getD_eq_getD_getElem?] at hp
                  have hs12 := hs 12 (by kernel_rfl)
                  simp only [Array.getD_eq_getD_getElem?, List.getElem?_toArray, List.getElem?_cons_succ, List.getElem?_cons_zero, Option.getD_some] at hs12
                  clear hs
                  clear hf hbs
                  (try simp only [hp])
                  go_simp
                  try dsimp only
                  refine hK.out _ _ ?_ ?_
                  · ((repeat (first | (with_reducible exact Fr.refl _ _) | (with_reducible assumption) | (with_reducible refine Fr.drew ?_) | (with_reducible refine Fr.drewN ?_ _) | (with_reducible refine Fr.alloc ?_ _) | (with_reducible refine Fr.setL ?_ _ _ _ ?_) | (focus (refine Or.inl ?_; simp; done)) | (focus (refine Or.inr ?_; simp; done)) | (focus (refine Or.inr ?_; simp; omega)) | (focus (refine Or.inr ?_; omega)))); done)
                  · simp only [nth]
                    first | (unfold Is; rfl) | (unfold Any; exact trivial) | exact IsSl.new _ _ _ _ | assumption
                · intro ac wx hf hbs hs hp K hK
                  simp only [waits, holdsA, nth, Is, Any, List.filter_cons, List.filter_nil, List.map_cons, List.map_nil, Region.binds, if_true, true_and, and_true, Nat.reduceAdd, List.getElem?_cons_zero, List.getElem?_cons_succ, Option.bind_some, Array.getD_eq_getD_getElem?] at hp
                  clear hs
                  clear hf hbs
                  (try simp only [hp])
                  go_simp
                  rw [if_pos (show (kn : Int) < 16 by omega)]
                  try dsimp only
                  refine hK.out _ _ ?_ ?_
                  · ((repeat (first | (with_reducible exact Fr.refl _ _) | (with_reducible assumption) | (with_reducible refine Fr.drew ?_) | (with_reducible refine Fr.drewN ?_ _) | (with_reducible refine Fr.alloc ?_ _) | (with_reducible refine Fr.setL ?_ _ _ _ ?_) | (focus (refine Or.inl ?_; simp; done)) | (focus (refine Or.inr ?_; simp; done)) | (focus (refine Or.inr ?_; simp; omega)) | (focus (refine Or.inr ?_; omega)))); done)
                  · simp only [nth]
                    first | (unfold Is; rfl) | (unfold Any; exact trivial) | exact IsSl.new _ _ _ _ | assumption
                · intro ac wx hf hbs hs hp K hK
                  simp only [waits, holdsA, nth, Is, Any, List.filter_cons, List.filter_nil, List.map_cons, List.map_nil, Region.binds, if_true, true_and, and_true, Nat.reduceAdd, List.getElem?_cons_zero, List.getElem?_cons_succ, Option.bind_some, Array.getD_eq_getD_getElem?] at hp
                  clear hs
                  have cx := kb wx hf
                  clear hf hbs
                  (try simp only [hp])
                  go_simp
                  try dsimp only
                  refine hK.out _ _ ?_ ?_
                  · ((repeat (first | (with_reducible exact Fr.refl _ _) | (with_reducible assumption) | (with_reducible refine Fr.drew ?_) | (with_reducible refine Fr.drewN ?_ _) | (with_reducible refine Fr.alloc ?_ _) | (with_reducible refine Fr.setL ?_ _ _ _ ?_) | (focus (refine Or.inl ?_; simp; done)) | (focus (refine Or.inr ?_; simp; done)) | (focus (refine Or.inr ?_; simp; omega)) | (focus (refine Or.inr ?_; omega)))); done)
                  · simp only [nth]
                    first | (unfold Is; rfl) | (unfold Any; exact trivial) | exact IsSl.new _ _ _ _ | assumption
                · intro ac wx hf hbs hs hp K hK
                  simp only [waits, holdsA, nth, Is, Any, List.filter_cons, List.filter_nil, List.map_cons, List.map_nil, Region.binds, if_true, true_and, and_true, Nat.reduceAdd, List.getElem?_cons_zero, List.getElem?_cons_succ, Option.bind_some, Array.getD_eq_getD_getElem?] at hp
                  clear hs
                  clear hf hbs
                  (try simp only [hp])
                  go_simp
                  try dsimp only
                  refine hK.out _ _ ?_ ?_
                  · ((repeat (first | (with_reducible exact Fr.refl _ _) | (with_reducible assumption) | (with_reducible refine Fr.drew ?_) | (with_reducible refine Fr.drewN ?_ _) | (with_reducible refine Fr.alloc ?_ _) | (with_reducible refine Fr.setL ?_ _ _ _ ?_) | (focus (refine Or.inl ?_; simp; done)) | (focus (refine Or.inr ?_; simp; done)) | (focus (refine Or.inr ?_; simp; omega)) | (focus (refine Or.inr ?_; omega)))); done)
                  · simp only [nth]
                    first | (unfold Is; rfl) | (unfold Any; exact trivial) | exact IsSl.new _ _ _ _ | assumption
              case hD =>
                intro x wx hf hp
                simp only [List.take_succ_cons, List.take_zero, List.drop_succ_cons, List.drop_zero, fill, List.setIfInBounds_toArray, List.set_cons_zero, List.set_cons_succ, Nat.reduceAdd, Act.put]
                simp only [List.range_eq_range', List.range'_succ, List.range'_zero, Nat.zero_add, Nat.add_zero, Nat.reduceAdd, holds, nth, Is, Any, true_and, and_true] at hp
                obtain ⟨x0, x1, x2, x3, x4, ⟨x5, hT6⟩, x6, x7, x8, x9, x10, x11⟩ := hp
                simp only [x0, x1, x2, x3, x4, x5, x6, x7, x8, x9, x10, x11]
                clear x0 x1 x2 x3 x4 x5 x6 x7 x8 x9 x10 x11 kb
                have hM6 := hM.fr hf hbF
                obtain ⟨cm6, fm6⟩ := hM6 kn hkn16
                have hcl6 : ∃ cs t f, wx.heap[bm]? = some (.cells cs t f) := by
                  obtain ⟨cs, t, f, h⟩ := hcl
                  exact ⟨cs, t, f, hf.keeps h hbF⟩
                have hT7 := hT6.atM.setFar hbw hcl6 hbp kn (.bool true)
                have hM7 := hM6.set hkn16 true
                have hcl7 : ∃ cs t f, (wx.setCell ⟨bm, kn, none⟩ (.bool true)).heap[bm]? = some (.cells cs t f) := by
                  obtain ⟨cs, t, f, h⟩ := hcl6
                  exact setCell_cells h _ _
                rw [setB_same mb kn true HMB.out] at hM7
                clear hT hM hcl hM6 hcl6 hT6
                go_wp2
                go_roundw
                case rel => exact ⟨k + 1, _, by simp, by omega, hT7, hM7, hcl7⟩
                case measure => simp [intOf]; omega
          · have d3 : decide ((k : Int) < (l.length : Int)) = false := by simp; omega
            have hM3 := fun wz (f : Fr [] wr wz) => hM.fr f (by simp)
            have hT3 := fun wz (f : Fr [] wr wz) => hT.on f
            clear hT hM hcl hbp hbw
            have HFR := Lib.hid (hT3 wr (Fr.refl _ _)).fr
            have HM3 := Lib.hid hM3
            have HT3 := Lib.hid hT3
            clear hM3 hT3
            obtain ⟨wo, rfl⟩ : ∃ wo, wo = wr := ⟨_, rfl⟩
            go_wp2
            go_loopw [13, 14] (fun v i wz => ∃ j : Nat, i = .int .i64 j ∧ j ≤ 16 ∧ Fr [] wo wz ∧ wz.ownsRow wo.heap.size 3 1 v (wantL mb j).length ((wantL mb j).map (Value.int .i64))) (fun _ i _ => 16 - (intOf i).toNat)
            case atStart => exact ⟨0, rfl, by omega, Fr.refl _ _, World.ownsRow_nil _ _ _ _⟩
            case round =>
              obtain ⟨j, rfl, hj, fo, hown⟩ := hrel
              by_cases hlj : j < 16
              · have d4 : decide ((j : Int) < 16) = true := by simp; omega
                obtain ⟨cm, fm⟩ := HM3.out _ fo j hlj
                have q1 : IntKind.i64.wrap (2 * (j : Int)) = 2 * (j : Int) := IntWalk.i64_in _ (by omega)
                have q2 : IntKind.i64.wrap (2 + 2 * (j : Int)) = 2 + 2 * (j : Int) := IntWalk.i64_in _ (by omega)
                have q3 : IntKind.i64.wrap ((j : Int) + 1) = (j : Int) + 1 := IntWalk.i64_in _ (by omega)
                have hwl := wantL_len mb j
                have hsz := fo.size
                cases hmb : mb j with
                | false =>
                  rw [hmb] at cm
                  have HW := Lib.hid (show wantL mb (j + 1) = wantL mb j by rw [wantL_succ, hmb]; simp)
                  clear hmb
                  go_wp2
                  go_roundw
                  case rel => exact ⟨j + 1, by simp, by omega, fo, by rw [HW.out]; exact hown⟩
                  case measure => simp [intOf]; omega
                | true =>
                  rw [hmb] at cm
                  have HW := Lib.hid (show wantL mb (j + 1) = wantL mb j ++ [2 + 2 * (j : Int)] by rw [wantL_succ, hmb]; simp)
                  clear hmb
                  go_wp2_with (at_builtin; refine wpList_append_own _ rfl _ _ 31 rfl wo.heap.size 3 i0 (.int .i64 0) 1 8 hun hi hz0 hz1 hz2 rfl (by decide) _ _ _ rfl (hown.alloc _) ⟨wr.heap.size, 0, none⟩ 1 1 [.int .i64 (2 + 2 * (j : Int))] rfl rfl ?c1 ?c2 ?c4 ?c5 ?c6 ?_)
                  case c1 => intro i u hu; match i, hu with
                    | 0, hu => simp at hu; subst hu; rw [Go.WideShapes.add_plain]; exact (Blk.new wr #[.int .i64 (2 + 2 * (j : Int))] 3).cell 0 rfl
                    | i + 1, hu => simp at hu
                  case c2 => intro u hu; simp at hu; subst hu; rfl
                  case c4 => unfold maxLen; omega
                  case c5 => omega
                  case c6 => simp; omega
                  intro v' w4 hown4 hgrow _
                  have f4 : Fr [] wo w4 := (fo.alloc _).grown hgrow (fun k hk => .inr (hown.lt k hk).1)
                  have hown5 : w4.ownsRow wo.heap.size 3 1 v' (wantL mb (j + 1)).length ((wantL mb (j + 1)).map (Value.int .i64)) := by rw [HW.out]; simpa using hown4
                  go_wp2
                  go_roundw
                  case rel => exact ⟨j + 1, by simp, by omega, f4, hown5⟩
                  case measure => simp [intOf]; omega
              · have d4 : decide ((j : Int) < 16) = false := by simp; omega
                obtain rfl : j = 16 := by omega
                have hT4 := HT3.out _ fo
                go_wp2_with fail
                refine (Hears_any w _ p _ a hT4).mono ?_
                rintro e w5 ⟨s, rfl, ho5, hT5, f5⟩
                rw [HFIN.out c mb] at ho5
                have hI1 := Ints.ofOwn ho5 (wantL_wf mb 16 (Nat.le_refl _))
                have hown5 := ownsFr hown f5
                have hsl : ∃ s : Sl, u13 = .slice s.A s.n s.c := by
                  rcases hown5.2 with ⟨e, _⟩ | ⟨g, cap, cur, e, _⟩
                  · exact ⟨Sl.nil, e⟩
                  · exact ⟨⟨_, _, _⟩, e⟩
                obtain ⟨s2, rfl⟩ := hsl
                have hI2 := Ints.ofOwn hown5 (wantL_wf mb 16 (Nat.le_refl _))
                have hle := wantL_len mb 16
                clear hT4 ho5 hown hown5
                go_wp2_with fail
                refine (law_Ints w5 s s2 _ _ hI1 hI2 (by omega)).mono ?_
                rintro e w6 ⟨rfl, f6⟩
                rw [beq_self_eq_true]
                go_wp2
                go_ret
                exact ⟨rfl, ((HFR.out.tr fo).tr f5).tr f6⟩
end Go.Proofs.Ytdmgpbochddahaa
