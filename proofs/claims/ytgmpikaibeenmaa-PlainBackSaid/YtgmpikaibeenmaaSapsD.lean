
/- Package saps: each deed, whatever it is, at a plain model. -/
import Derived.Test.YtgmpikaibeenmaaSapsL
namespace Go.Proofs.Ytgmpikaibeenmaa
open Go.RowKit Go.Shelf Go.ChangeMaps
set_option linter.unusedVariables false
set_option linter.unusedSimpArgs false
set_option maxRecDepth 100000

/-- A SAP, without memory. -/
structure AE where
  k : Int
  cls : Int
  gs : List Int
deriving DecidableEq
def SE.a (x : SE) : AE := ⟨x.k, x.cls, x.gs⟩
def lookA (l : List AE) (n : Int) : Option AE := l.find? (·.k == n)
def openA (l : List AE) (n c : Int) : Int × List AE :=
  if argB n c = false then (1, l) else if (lookA l n).isSome then (8, l) else if 16 ≤ l.length then (6, l) else (0, l ++ [⟨n, c, []⟩])
def closeA (l : List AE) (n : Int) : Int × List AE := if (lookA l n).isSome then (0, l.filter (·.k != n)) else (7, l)
def joinA (l : List AE) (n g : Int) : Int × List AE :=
  if groupB g = false then (1, l) else match lookA l n with
  | none => (7, l)
  | some x => if x.gs.contains g then (8, l) else (0, l.map fun x => if x.k = n then { x with gs := x.gs ++ [g] } else x)
def leaveA (l : List AE) (n g : Int) : Int × List AE :=
  if groupB g = false then (1, l) else match lookA l n with
  | none => (7, l)
  | some x => if x.gs.contains g then (0, l.map fun x => if x.k = n then { x with gs := x.gs.filter (· != g) } else x) else (7, l)

theorem look_a (l : List SE) (n : Int) : lookA (l.map SE.a) n = (look l n).map SE.a := by
  unfold lookA look; rw [List.find?_map]; rfl
theorem regr_a (l : List SE) (n : Int) (f : List Int → List Int) : (regr l n f).map SE.a = (l.map SE.a).map fun x => if x.k = n then { x with gs := f x.gs } else x := by
  unfold regr
  rw [List.map_map, List.map_map]
  apply List.map_congr_left
  intro x _
  simp only [Function.comp_apply, SE.a]
  by_cases h : x.k = n <;> simp [h]
theorem clsOf_pos {w : World} {p b c : Nat} {l : List SE} {n : Int} (hS : IsS w p b l c) : (0 < clsOf l n) ↔ (look l n).isSome = true := by
  unfold clsOf
  cases h : look l n with
  | none => simp
  | some x => simp; have := (hS.pos x (look_mem h).1).1; omega

/-- The SAPs in memory are these; of what was in w0 nothing is otherwise. -/
structure At (w0 w : World) (p : Nat) (m : List AE) (b c : Nat) (l : List SE) : Prop where
  is : IsS w p b l c
  m_ : l.map SE.a = m
  fr : Fr [] w0 w
  new : ∀ y ∈ foot p b l, w0.heap.size ≤ y
def AtM (w0 w : World) (p : Nat) (m : List AE) : Prop := ∃ b c l, At w0 w p m b c l
theorem AtM.on {w0 w w' : World} {p : Nat} {m : List AE} (h : AtM w0 w p m) (f : Fr [] w w') : AtM w0 w' p m := by
  obtain ⟨b, c, l, h1, h2, h3, h4⟩ := h
  exact ⟨b, c, l, h1.fr0 f, h2, h3.tr f, h4⟩
theorem AtM.fr {w0 w : World} {p : Nat} {m : List AE} (h : AtM w0 w p m) : Fr [] w0 w := by
  obtain ⟨b, c, l, h1, h2, h3, h4⟩ := h
  exact h3
theorem AtM.start {w0 w w' : World} {p b : Nat} (hS : IsS w' p b [] 0) (hp : w.heap.size ≤ p) (hb : w.heap.size ≤ b) (f : Fr [] w0 w) (f' : Fr [] w w') : AtM w0 w' p [] :=
  ⟨b, 0, [], hS, rfl, f.tr f', fun y hy => by have := f.size; simp [foot] at hy; omega⟩

theorem Open_any (w0 w : World) (p : Nat) (m : List AE) (n c : Int) (h : AtM w0 w p m) :
    Calls Try.prog 10 #[.pointer (some ⟨p, 0, none⟩), .int .i64 n, .int .i64 c] w fun e w' => e = .returned (.int .i64 (openA m n c).1) ∧ AtM w0 w' p (openA m n c).2 := by
  obtain ⟨b, k, l, hS, rfl, hF, hN⟩ := h
  unfold openA
  by_cases ha : argB n c = false
  · rw [if_pos ha]
    refine (Open_arg w p b k l n c ha).mono ?_
    rintro e w' ⟨rfl, rfl⟩
    exact ⟨rfl, b, k, l, hS, rfl, hF, hN⟩
  · rw [if_neg ha, look_a, Option.isSome_map]
    have ha' : argB n c = true := by simpa using ha
    by_cases hc : 0 < clsOf l n
    · rw [if_pos ((clsOf_pos hS).1 hc)]
      refine (Open_there w p b k l n c hS ha' hc).mono ?_
      rintro e w' ⟨rfl, rfl⟩
      exact ⟨rfl, b, k, l, hS, rfl, hF, hN⟩
    · have hln : look l n = none := by
        have := mt (clsOf_pos hS).2 hc
        simpa using this
      have hc0 : clsOf l n = 0 := by unfold clsOf; rw [hln]
      rw [if_neg (fun h => hc ((clsOf_pos hS).2 h)), List.length_map]
      by_cases hf : 16 ≤ l.length
      · rw [if_pos hf]
        refine (Open_full w p b k l n c hS ha' hc0 hf).mono ?_
        rintro e w' ⟨rfl, rfl⟩
        exact ⟨rfl, b, k, l, hS, rfl, hF, hN⟩
      · rw [if_neg hf]
        refine (Open_ok w p b k l n c hS ha' hc0 (by omega)).mono ?_
        rintro e w' ⟨rfl, hS', f⟩
        refine ⟨rfl, b, k + 1, _, hS', by simp [SE.a], hF.trans f (fun y hy => .inr (hN y hy)), fun y hy => ?_⟩
        simp only [foot, List.map_append, List.map_cons, List.map_nil, List.mem_cons, List.mem_append, List.not_mem_nil, or_false] at hy
        rcases hy with hy | hy | hy | hy
        · exact hN y (by simp [foot, hy])
        · exact hN y (by simp [foot, hy])
        · exact hN y (by simp only [foot, List.mem_cons]; exact .inr (.inr hy))
        · have := hF.size; omega

theorem Close_any (w0 w : World) (p : Nat) (m : List AE) (n : Int) (h : AtM w0 w p m) :
    Calls Try.prog 50 #[.pointer (some ⟨p, 0, none⟩), .int .i64 n] w fun e w' => e = .returned (.int .i64 (closeA m n).1) ∧ AtM w0 w' p (closeA m n).2 := by
  obtain ⟨b, k, l, hS, rfl, hF, hN⟩ := h
  unfold closeA
  rw [look_a, Option.isSome_map]
  by_cases hc : 0 < clsOf l n
  · rw [if_pos ((clsOf_pos hS).1 hc)]
    refine (Close_ok w p b k l n hS hc).mono ?_
    rintro e w' ⟨rfl, hS', f⟩
    refine ⟨rfl, b, k, _, hS', by rw [List.filter_map]; rfl, hF.trans f (fun y hy => .inr (hN y hy)), fun y hy => hN y ?_⟩
    simp only [foot, List.mem_cons] at hy ⊢
    exact hy.imp id (Or.imp id (fun h => (List.filter_sublist.map _).subset h))
  · have hln : look l n = none := by
      have := mt (clsOf_pos hS).2 hc
      simpa using this
    rw [if_neg (fun h => hc ((clsOf_pos hS).2 h))]
    refine (Close_none w p b k l n hS (by unfold clsOf; rw [hln])).mono ?_
    rintro e w' ⟨rfl, rfl⟩
    exact ⟨rfl, b, k, l, hS, rfl, hF, hN⟩

theorem foot_regr (p b : Nat) (l : List SE) (n : Int) (f : List Int → List Int) : foot p b (regr l n f) = foot p b l := by
  unfold foot; rw [regr_map l n f (·.gb) (fun _ _ => rfl)]

theorem Join_any (w0 w : World) (p : Nat) (m : List AE) (n g : Int) (h : AtM w0 w p m) :
    Calls Try.prog 52 #[.pointer (some ⟨p, 0, none⟩), .int .i64 n, .int .i64 g] w fun e w' => e = .returned (.int .i64 (joinA m n g).1) ∧ AtM w0 w' p (joinA m n g).2 := by
  obtain ⟨b, k, l, hS, rfl, hF, hN⟩ := h
  unfold joinA
  by_cases hg : groupB g = false
  · rw [if_pos hg]
    refine (Join_arg w p n g hg).mono ?_
    rintro e w' ⟨rfl, rfl⟩
    exact ⟨rfl, b, k, l, hS, rfl, hF, hN⟩
  · have hg' : groupB g = true := by simpa using hg
    rw [if_neg hg, look_a]
    cases hl : look l n with
    | none =>
      refine (Join_none w p b k l n g hS hg' hl).mono ?_
      rintro e w' ⟨rfl, f⟩
      exact ⟨rfl, AtM.on ⟨b, k, l, hS, rfl, hF, hN⟩ f⟩
    | some x =>
      obtain ⟨hxm, rfl⟩ := look_mem hl
      simp only [Option.map_some]
      by_cases hc : x.gs.contains g = true
      · rw [if_pos (show x.a.gs.contains g = true from hc)]
        refine (Join_in w p b k l g x hS hg' hl hc).mono ?_
        rintro e w' ⟨rfl, f⟩
        exact ⟨rfl, AtM.on ⟨b, k, l, hS, rfl, hF, hN⟩ f⟩
      · rw [if_neg (show ¬ x.a.gs.contains g = true from hc)]
        refine (Join_ok w p b k l g x hS hg' hl (by simpa using hc)).mono ?_
        rintro e w' ⟨rfl, hS', f⟩
        refine ⟨rfl, b, k, _, hS', regr_a _ _ _, hF.trans f (fun y hy => .inr (hN y ?_)), fun y hy => hN y (by rwa [foot_regr] at hy)⟩
        simp only [List.mem_singleton] at hy
        subst hy
        simp only [foot, List.mem_cons]
        exact .inr (.inr (List.mem_map_of_mem hxm))

theorem Leave_any (w0 w : World) (p : Nat) (m : List AE) (n g : Int) (h : AtM w0 w p m) :
    Calls Try.prog 54 #[.pointer (some ⟨p, 0, none⟩), .int .i64 n, .int .i64 g] w fun e w' => e = .returned (.int .i64 (leaveA m n g).1) ∧ AtM w0 w' p (leaveA m n g).2 := by
  obtain ⟨b, k, l, hS, rfl, hF, hN⟩ := h
  unfold leaveA
  by_cases hg : groupB g = false
  · rw [if_pos hg]
    refine (Leave_arg w p n g hg).mono ?_
    rintro e w' ⟨rfl, rfl⟩
    exact ⟨rfl, b, k, l, hS, rfl, hF, hN⟩
  · have hg' : groupB g = true := by simpa using hg
    rw [if_neg hg, look_a]
    cases hl : look l n with
    | none =>
      refine (Leave_none w p b k l n g hS hg' hl).mono ?_
      rintro e w' ⟨rfl, f⟩
      exact ⟨rfl, AtM.on ⟨b, k, l, hS, rfl, hF, hN⟩ f⟩
    | some x =>
      obtain ⟨hxm, rfl⟩ := look_mem hl
      simp only [Option.map_some]
      by_cases hc : x.gs.contains g = true
      · rw [if_pos (show x.a.gs.contains g = true from hc)]
        refine (Leave_ok w p b k l g x hS hg' hl hc).mono ?_
        rintro e w' ⟨rfl, hS', f⟩
        refine ⟨rfl, b, k, _, hS', regr_a _ _ _, hF.trans f (fun y hy => .inr (hN y ?_)), fun y hy => hN y (by rwa [foot_regr] at hy)⟩
        simp only [List.mem_singleton] at hy
        subst hy
        simp only [foot, List.mem_cons]
        exact .inr (.inr (List.mem_map_of_mem hxm))
      · rw [if_neg (show ¬ x.a.gs.contains g = true from hc)]
        refine (Leave_out w p b k l g x hS hg' hl (by simpa using hc)).mono ?_
        rintro e w' ⟨rfl, f⟩
        exact ⟨rfl, AtM.on ⟨b, k, l, hS, rfl, hF, hN⟩ f⟩

def hearA (m : List AE) (to : Int) : List Int := srt ((m.filter fun x => hearsB to x.k x.gs).map (·.k))
def clsA (m : List AE) (n : Int) : Int := match lookA m n with | some x => x.cls | none => 0
theorem Class_any (w0 w : World) (p : Nat) (m : List AE) (n : Int) (h : AtM w0 w p m) :
    Calls Try.prog 21 #[.pointer (some ⟨p, 0, none⟩), .int .i64 n] w fun e w' => e = .returned (.int .i64 (clsA m n)) ∧ w = w' := by
  obtain ⟨b, k, l, hS, rfl, hF, hN⟩ := h
  refine (saps_Class w p b k l n hS).mono ?_
  rintro e w' ⟨rfl, rfl⟩
  refine ⟨?_, rfl⟩
  unfold clsA clsOf
  rw [look_a]
  cases look l n <;> rfl
theorem hearA_a (l : List SE) (to : Int) : hearA (l.map SE.a) to = hearsM l to := by
  unfold hearA hearsM; rw [List.filter_map, List.map_map]; rfl
theorem Hears_any (w0 w : World) (p : Nat) (m : List AE) (to : Int) (h : AtM w0 w p m) :
    Calls Try.prog 47 #[.pointer (some ⟨p, 0, none⟩), .int .i64 to] w fun e w' =>
      ∃ s : Sl, e = .returned (.slice s.A s.n s.c) ∧ w'.ownsRow w.heap.size 3 1 s.v (hearA m to).length ((hearA m to).map (Value.int .i64)) ∧ AtM w0 w' p m ∧ Fr [] w w' := by
  obtain ⟨b, k, l, hS, rfl, hF, hN⟩ := h
  refine (saps_Hears w p b k l to hS).mono ?_
  rintro e w' ⟨s, rfl, hown, f⟩
  rw [hearA_a]
  exact ⟨s, rfl, hown, AtM.on ⟨b, k, l, hS, rfl, hF, hN⟩ f, f⟩
end Go.Proofs.Ytgmpikaibeenmaa
