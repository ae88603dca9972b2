
/- A region that draws its order, of reads that tell one value in every world of a class, and of writes each of which comes alone: one walk of the text's order serves every order. Plain lemmas over any program. -/
import Derived.Test.YtgmpikaibeenmaaRange
import Derived.OrdersHeld
namespace Go.Proofs.Ytgmpikaibeenmaa
open Go.RowKit
set_option linter.unusedVariables false
set_option linter.unusedSimpArgs false
set_option maxRecDepth 100000

/-- Operations that tell a value, or do not end well. -/
def tells : Op → Bool
  | .move _ | .assign _ | .pick .. | .load .. | .nilCheck _ | .binOp .. | .unOp .. | .convert .. | .fieldAddr .. | .field .. | .indexAddr .. | .index .. | .makeInterface .. | .extract .. | .slice .. | .lookup .. => true
  | _ => false

theorem tell_v {P : Program} {s : Sem Value} {w w' : World} {n : Next} (h : (do pure (Next.value (← s)) : Sem Next).run P w = .ok n w') : ∃ v, n = .value v := by
  rw [Sem.run_bind] at h
  cases hs : s.run P w with
  | ok x w1 => rw [hs] at h; simp [Result.andThen, pure, Sem.run] at h; exact ⟨x, h.1.symm⟩
  | halt x w1 => rw [hs] at h; simp [Result.andThen] at h

theorem tells_pure {P : Program} {v : Value} {w w' : World} {n : Next} (h : (pure (Next.value v) : Sem Next).run P w = .ok n w') : ∃ v, n = .value v := by
  simp [pure, Sem.run] at h; exact ⟨v, h.1.symm⟩

theorem not_halt {P : Program} {w w' : World} {n : Next} (h : (runtimePanic .nilDeref : Sem Next).run P w = .ok n w') : ∃ v, n = .value v := by
  simp [runtimePanic, goPanic, program, Sem.run, Sem.run_bind, Result.andThen] at h

theorem tell_bind {α : Type} {P : Program} {s : Sem α} {k : α → Sem Next} {w w' : World} {n : Next} (h : (s >>= k).run P w = .ok n w') (hk : ∀ a w1, (k a).run P w1 = .ok n w' → ∃ v, n = .value v) : ∃ v, n = .value v := by
  rw [Sem.run_bind] at h
  cases hs : s.run P w with
  | ok x w1 => rw [hs] at h; exact hk x w1 h
  | halt x w1 => rw [hs] at h; simp [Result.andThen] at h

theorem tells_value {P : Program} {o : Oper} {ρ : Operand → Value} {w w' : World} {n : Next} (ht : tells o.op = true) (h : (execOp ρ o).run P w = .ok n w') : ∃ v, n = .value v := by
  unfold execOp at h
  cases ho : o.op <;> rw [ho] at ht h <;> simp only [tells, reduceCtorEq] at ht <;> dsimp only at h
  case nilCheck x =>
    split at h
    · exact not_halt h
    · exact not_halt h
    · exact not_halt h
    · split at h
      · exact not_halt h
      · refine tell_bind h fun p w1 h1 => tell_bind h1 fun q w2 h2 => ?_
        split at h2
        · refine tell_bind h2 fun _ w3 h3 => tells_pure h3
        · exact tells_pure h2
      · exact tells_pure h
    · exact tells_pure h
  all_goals first | exact tells_pure h | exact tell_v h | exact tell_bind h fun q w2 h2 => tells_pure h2

/-- What follows one write: the class holds, and the rest. -/
def loudPost (S : World → Prop) (K : Act → World → Prop) : Exit → Act → World → Prop
  | .normal, a, w => S w ∧ K a w
  | _, _, _ => False

/-- The walk: 'some n': n reads, each of which tells one value in every world of the class; 'none': one write, that comes alone. -/
def wpMix (P : Program) (ops : Array Oper) (S : World → Prop) (Q : Act → World → Prop) : List (Option Nat) → List Oper → Act → World → Prop
  | [], _, a, w => Q a w
  | some n :: r, l, a, w => wpQuiet P ops S (fun a' => wpMix P ops S Q r (l.drop n) a' w) (l.take n) a
  | none :: r, l, a, w => wpList P ops (loudPost S fun a' w' => wpMix P ops S Q r (l.drop 1) a' w') (l.take 1) a w

def quietB (md : Region.Mode) (ops : Array Oper) : Nat → Nat → Array Bool → Bool
  | 0, _, _ => true
  | n + 1, k, listed => (Region.ready md ops listed).contains k && Region.free md ops listed k && ((ops[k]?).map fun o => tells o.op).getD false && quietB md ops n (k + 1) (listed.setIfInBounds k true)

def marked (n k : Nat) (listed : Array Bool) : Array Bool := match n with
  | 0 => listed
  | n + 1 => marked n (k + 1) (listed.setIfInBounds k true)

def mixB (md : Region.Mode) (ops : Array Oper) : List (Option Nat) → Nat → Array Bool → Bool
  | [], k, listed => (Region.ready md ops listed).isEmpty && k == ops.size
  | some n :: r, k, listed => quietB md ops n k listed && mixB md ops r (k + n) (marked n k listed)
  | none :: r, k, listed => decide (Region.ready md ops listed = [k]) && mixB md ops r (k + 1) (listed.setIfInBounds k true)

theorem yieldsIf_of_quiet {P : Program} {ops : Array Oper} {S : World → Prop} {o : Oper} {a : Act} {K : Act → Prop} (ht : tells o.op = true)
    (h : if Region.wanted o (yielded ops a.tmps) then o.quiet P a S K else K (a.put o.dst undef)) : ∃ v, YieldsIf P ops S o v a ∧ K (a.put o.dst v) := by
  by_cases hw : Region.wanted o (yielded ops a.tmps) = true
  · simp only [hw, if_true] at h
    obtain ⟨v, h1, h2⟩ := h
    refine ⟨v, .inl ⟨hw, fun w hS => ?_⟩, h2⟩
    have h3 := h1 w hS
    unfold Oper.quietAt at h3
    cases hr : (execOp a.eval o).run P w with
    | ok n w' =>
      obtain ⟨u, rfl⟩ := tells_value ht hr
      rw [hr] at h3
      simp only [Oper.quietUpon] at h3
      rw [h3.1, h3.2]
    | halt x w' => rw [hr] at h3; simp only [Oper.quietUpon] at h3
  · simp only [hw, Bool.false_eq_true, if_false] at h
    exact ⟨undef, .inr ⟨by simpa using hw, rfl⟩, h⟩

theorem anyH_quiet {P : Program} {md : Region.Mode} {ops : Array Oper} {Q : Exit → Act → World → Prop} {S : World → Prop} {w : World} (hsel : Region.noSelect ops = true) (hQ : ∀ c a w, ¬ Q (.panic c) a w) (hS : S w)
    {K : Act → Prop} {f : Nat} : ∀ (l : List Oper) (k : Nat) (listed : Array Bool) (a : Act), (∀ j, j < l.length → l[j]? = ops[k + j]?) → quietB md ops l.length k listed = true →
      (∀ a', K a' → wpAnyH P md ops Q S f (marked l.length k listed) a' w) → wpQuiet P ops S K l a → wpAnyH P md ops Q S (l.length + f) listed a w
  | [], k, listed, a, _, _, hK, h => by rw [List.length_nil, Nat.zero_add]; exact hK a h
  | o :: l, k, listed, a, hl, hB, hK, h => by
    have h0 : ops[k]? = some o := by simpa using (hl 0 (by simp)).symm
    simp only [List.length_cons, quietB, Bool.and_eq_true, h0, Option.map_some, Option.getD_some] at hB
    obtain ⟨⟨⟨hr, hf⟩, ht⟩, hB'⟩ := hB
    obtain ⟨v, hy, hK'⟩ := yieldsIf_of_quiet (K := wpQuiet P ops S K l) ht h
    rw [List.length_cons, show l.length + 1 + f = (l.length + f) + 1 by omega]
    refine wpAnyH_take h0 hsel hf hr (fun c a w h => absurd h (hQ _ _ _)) hy hS ?_
    exact anyH_quiet hsel hQ hS l (k + 1) _ _ (fun j hj => by have := hl (j + 1) (by simp; omega); simpa [Nat.add_assoc, Nat.add_comm 1 j] using this) hB' (fun a' h' => hK a' h') hK'

theorem wp_shut {P : Program} {o : Oper} {a : Act} {w : World} {K K' : Act → World → Prop} {Q Q' : Exit → Act → World → Prop} (h : ∀ a w, K a w → K' a w) (hp : ∀ c a w, ¬ Q (.panic c) a w) (hQ : ¬ LetsOut Q)
    (hh : o.wp P a w K Q) : o.wp P a w K' Q' := by
  unfold Oper.wp at *
  generalize (execOp a.eval o).run P w = r at *
  cases r with
  | ok x w' =>
    cases x <;> simp only [Oper.upon] at hh ⊢
    case enter f args =>
      exact hh.mono fun e w'' he => by
        cases e with
        | returned v => exact h _ _ he
        | panicked c => exact absurd he (hp _ _ _)
        | outgrown => exact absurd he hQ
    case row row args => exact hh.mono fun _ _ he => h _ _ he
    all_goals exact h _ _ hh
  | halt x w' =>
    cases x <;> simp only [Oper.upon] at hh ⊢
    exact absurd hh (hp _ _ _)

theorem anyH_mix {P : Program} {md : Region.Mode} {ops : Array Oper} {Q : Exit → Act → World → Prop} {S : World → Prop} (hsel : Region.noSelect ops = true) (hQ : ∀ c a w, ¬ Q (.panic c) a w) :
    ∀ (r : List (Option Nat)) (l : List Oper) (k : Nat) (listed : Array Bool) (a : Act) (w : World), (∀ j, l[j]? = ops[k + j]?) → S w → mixB md ops r k listed = true →
      wpMix P ops S (Q .normal) r l a w → wpAnyH P md ops Q S l.length listed a w
  | [], l, k, listed, a, w, hl, hS, hB, h => by
    simp only [mixB, Bool.and_eq_true] at hB
    exact wpAnyH_done (by simpa using hB.1) h _
  | some n :: r, l, k, listed, a, w, hl, hS, hB, h => by
    simp only [mixB, Bool.and_eq_true] at hB
    simp only [wpMix] at h
    have hlen : (l.take n).length + (l.drop n).length = l.length := by simp; omega
    rw [← hlen]
    by_cases hn : n ≤ l.length
    · have htl : (l.take n).length = n := by simp; omega
      refine anyH_quiet hsel hQ hS (l.take n) k listed a (fun j hj => ?_) (by rw [htl]; exact hB.1) (fun a' h' => ?_) h
      · rw [htl] at hj
        rw [List.getElem?_take_of_lt hj]; exact hl j
      · rw [htl]
        exact anyH_mix hsel hQ r (l.drop n) (k + n) _ a' w (fun j => by rw [List.getElem?_drop, hl (n + j), Nat.add_assoc]) hS hB.2 h'
    · exfalso
      have key : ∀ (m k : Nat) (listed : Array Bool), quietB md ops m k listed = true → ∀ i, i < m → (ops[k + i]?).isSome = true := by
        intro m
        induction m with
        | zero => intro k listed _ i hi; omega
        | succ m ih =>
          intro k listed hq i hi
          simp only [quietB, Bool.and_eq_true] at hq
          cases i with
          | zero =>
            rw [Nat.add_zero]
            cases ho : ops[k]? with
            | none => rw [ho] at hq; simp at hq
            | some _ => rfl
          | succ i => rw [show k + (i + 1) = k + 1 + i by omega]; exact ih _ _ hq.2 i (by omega)
      have h1 := key n k listed hB.1 l.length (by omega)
      rw [← hl l.length] at h1
      simp at h1
  | none :: r, l, k, listed, a, w, hl, hS, hB, h => by
    simp only [mixB, Bool.and_eq_true, decide_eq_true_eq] at hB
    simp only [wpMix] at h
    cases l with
    | nil =>
      exfalso
      have h1 := hl 0
      have h2 : k ∈ Region.ready md ops listed := by rw [hB.1]; simp
      obtain ⟨_, o, ho, _⟩ := mem_ready.1 h2
      rw [Nat.add_zero, ho] at h1
      simp at h1
    | cons o l =>
      simp only [List.take_succ_cons, List.take_zero, List.drop_succ_cons, List.drop_zero] at h
      have h0 : ops[k]? = some o := by simpa using (hl 0).symm
      rw [List.length_cons]
      refine wpAnyH_all hB.1 (by simp) fun i hi => ?_
      have hik : i = k := by simpa using hi
      subst hik
      have hw : wpOp P ops (loudPost S fun a' w' => wpMix P ops S (Q .normal) r l a' w') i (fun a' w' => S w' ∧ wpMix P ops S (Q .normal) r l a' w') a w := by
        unfold wpOp; simp only [h0]; exact h
      unfold wpOp at hw ⊢
      simp only [h0] at hw ⊢
      by_cases hwn : Region.wanted o (yielded ops a.tmps) = true
      · simp only [hwn, if_true] at hw ⊢
        rcases hw with h1 | h1
        · exact .inl (wp_shut (fun a' w' h' => ⟨h'.1, anyH_mix hsel hQ r l (i + 1) _ a' w' (fun j => by have := hl (j + 1); simpa [Nat.add_assoc, Nat.add_comm 1 j] using this) h'.1 hB.2 h'.2⟩) (fun _ _ _ h => h) (fun ⟨_, _, h⟩ => h) h1)
        · exact absurd h1.2 (fun ⟨_, _, h⟩ => h)
      · simp only [hwn, Bool.false_eq_true, if_false] at hw ⊢
        exact ⟨hw.1, anyH_mix hsel hQ r l (i + 1) _ _ w (fun j => by have := hl (j + 1); simpa [Nat.add_assoc, Nat.add_comm 1 j] using this) hw.1 hB.2 hw.2⟩

/-- Nothing but going on. -/
def goesOn (Q : Exit → Act → World → Prop) : Exit → Act → World → Prop
  | .normal, a, w => Q .normal a w
  | _, _, _ => False

theorem wpAny_mix {P : Program} {Q : Exit → Act → World → Prop} {S : World → Prop} {l : List Oper} {a : Act} {w : World} (r : List (Option Nat)) (hsel : Region.noSelect l.toArray = true) (hB : mixB .any l.toArray r 0 (Array.replicate l.toArray.size false) = true) (hS : S w)
    (h : wpMix P l.toArray S (Q .normal) r l a w) : wpAny P .any l.toArray (goesOn Q) l.toArray.size (Array.replicate l.toArray.size false) a w := by
  have := anyH_mix (P := P) (md := .any) (ops := l.toArray) (Q := goesOn Q) (S := S) hsel (fun _ _ _ h => h) r l 0 (Array.replicate l.toArray.size false) a w (by simp) hS hB h
  simpa using wpAny_of_held _ _ _ _ this

theorem goesOn_imp {Q : Exit → Act → World → Prop} : ∀ (e : Exit) (a : Act) (w : World), goesOn Q e a w → Q e a w := fun e a w h => by
  cases e <;> first | exact h | exact (h : False).elim

/-- **A region that draws its order, in the plain calculus.** -/
theorem wp_region_mix {P : Program} {id : Nat} {Q : Exit → Act → World → Prop} {a : Act} {w : World} {l : List Oper} (S : World → Prop) (r : List (Option Nat)) (hm : P.follows .mixedOrders = true) (hsel : Region.noSelect l.toArray = true)
    (hB : mixB .any l.toArray r 0 (Array.replicate l.toArray.size false) = true) (hS : S w.drew)
    (h : wpMix P l.toArray S (Q .normal) r l a w.drew) : (Code.region id l.toArray true).wp P Q a w :=
  Code.wp_mono goesOn_imp (wp_region_any hm (wpAny_mix r hsel hB hS h))

/-- **The same in a round.** -/
theorem wpIn_region_mix {P : Program} {id lp n : Nat} {Q : Exit → Act → World → Prop} {a : Act} {w : World} {l : List Oper} (S : World → Prop) (r : List (Option Nat)) (hm : P.follows .mixedOrders = true) (hsel : Region.noSelect l.toArray = true)
    (hB : mixB .any l.toArray r 0 (Array.replicate l.toArray.size false) = true) (hd : noDefer l = true) (hS : S w.drew)
    (h : wpMix P l.toArray S (Q .normal) r l a w.drew) : (Code.region id l.toArray true).wpIn (Fence.wide.inRound lp) n P Q a w :=
  Code.wpIn_mono goesOn_imp (wpIn_region_any hm (wpAnyIn_round (noDefer_spec hd) (fun ⟨_, _, h⟩ => h) _ _ _ _ (wpAny_mix r hsel hB hS h)))
/-- The worlds in which p holds, as the walk likes them. -/
structure Held (p : World → Prop) where
  x : World
  ok : p x
end Go.Proofs.Ytgmpikaibeenmaa
