
/- A region that draws its order, each of whose operations yields a value of which a fact is told that the others keep: one walk an operation serves every order. Plain lemmas over any program. -/
import Derived.Test.YtgmpikaibeenmaaTac
import Derived.Deep.RegionHeld3
namespace Go.Proofs.Ytgmpikaibeenmaa
open Go.RowKit
set_option linter.unusedVariables false
set_option linter.unusedSimpArgs false
set_option maxRecDepth 100000

/-- The slots, with x i in the slot of operation i. -/
def fill : List Oper → Nat → (Nat → Value) → Array Value → Array Value
  | [], _, _, t => t
  | o :: r, k, x, t => fill r (k + 1) x (match o.dst with | some d => t.setIfInBounds d (x k) | none => t)

theorem fill_size : ∀ (l : List Oper) (k : Nat) (x : Nat → Value) (t : Array Value), (fill l k x t).size = t.size
  | [], _, _, _ => rfl
  | o :: r, k, x, t => by
    unfold fill
    rw [fill_size r]
    cases o.dst <;> simp

theorem fill_ne : ∀ (l : List Oper) (k : Nat) (x y : Nat → Value) (t u : Array Value) (j : Nat), t[j]? = u[j]? → t.size = u.size → (∀ i o, l[i]? = some o → o.dst = some j → x (k + i) = y (k + i)) → (fill l k x t)[j]? = (fill l k y u)[j]?
  | [], _, _, _, _, _, _, h, _, _ => h
  | o :: r, k, x, y, t, u, j, h, hs, hx => by
    unfold fill
    refine fill_ne r (k + 1) x y _ _ j ?_ ?_ (fun i o' ho hd => by have := hx (i + 1) o' (by simpa using ho) hd; rwa [Nat.add_assoc, Nat.add_comm 1 i])
    · cases hd : o.dst with
      | none => exact h
      | some d =>
        by_cases e : d = j
        · subst e
          have := hx 0 o (by simp) hd
          simp only [Nat.add_zero] at this
          simp only [Array.getElem?_setIfInBounds, this, hs, if_true]
        · simp only [Array.getElem?_setIfInBounds, e, if_false]; exact h
    · cases o.dst <;> simp [hs]

theorem fill_keep : ∀ (l : List Oper) (k : Nat) (x : Nat → Value) (t : Array Value) (j : Nat), (∀ (i : Nat) (o : Oper), l[i]? = some o → o.dst ≠ some j) → (fill l k x t)[j]? = t[j]?
  | [], _, _, _, _, _ => rfl
  | o :: r, k, x, t, j, h => by
    unfold fill
    rw [fill_keep r (k + 1) x _ j (fun i o' ho => h (i + 1) o' (by simpa using ho))]
    have h0 := h 0 o (by simp)
    cases hd : o.dst with
    | none => rfl
    | some d =>
      have e : d ≠ j := fun e => h0 (by rw [hd, e])
      simp only [Array.getElem?_setIfInBounds, e, if_false]

theorem fill_at : ∀ (l : List Oper) (k : Nat) (x : Nat → Value) (t : Array Value) (i : Nat) (o : Oper) (d : Nat), l[i]? = some o → o.dst = some d → (∀ i' o', l[i']? = some o' → o'.dst = some d → i' = i) → d < t.size → (fill l k x t)[d]? = some (x (k + i))
  | [], _, _, _, _, _, _, h, _, _, _ => by simp at h
  | o :: r, k, x, t, i, p, d, h, hd, hu, hs => by
    unfold fill
    cases i with
    | zero =>
      simp only [List.getElem?_cons_zero, Option.some.injEq] at h
      subst h
      rw [fill_keep r _ _ _ d (fun i o' ho he => by have := hu (i + 1) o' (by simpa using ho) he; omega), hd]
      simp [Array.getElem?_setIfInBounds, hs]
    | succ i =>
      have := fill_at r (k + 1) x (match o.dst with | some d => t.setIfInBounds d (x k) | none => t) i p d (by simpa using h) hd
        (fun i' o' ho he => by have := hu (i' + 1) o' (by simpa using ho) he; omega) (by cases o.dst <;> simp [hs])
      rw [this, Nat.add_assoc, Nat.add_comm 1 i]

def upd (x : Nat → Value) (i : Nat) (v : Value) : Nat → Value := fun j => if j = i then v else x j

/-- No slot is written twice. -/
def apartB (l : List Oper) : Bool := (List.range l.length).all fun i => (List.range l.length).all fun j => i == j || match (l[i]?).bind (·.dst), (l[j]?).bind (·.dst) with | some d, some e => d != e | _, _ => true

theorem apart_of {l : List Oper} (h : apartB l = true) {i j : Nat} {o p : Oper} {d : Nat} (ho : l[i]? = some o) (hp : l[j]? = some p) (hd : o.dst = some d) (he : p.dst = some d) : j = i := by
  simp only [apartB, List.all_eq_true, List.mem_range] at h
  have hi : i < l.length := (List.getElem?_eq_some_iff.1 ho).1
  have hj : j < l.length := (List.getElem?_eq_some_iff.1 hp).1
  have := h i hi j hj
  rw [ho, hp] at this
  simp only [Option.bind_some, hd, he, bne_self_eq_false, Bool.or_false, beq_iff_eq] at this
  exact this.symm

theorem fill_put {l : List Oper} (h : apartB l = true) {i : Nat} {o : Oper} (ho : l[i]? = some o) (x : Nat → Value) (t : Array Value) (df : List Deferred) (v : Value) :
    ({ tmps := fill l 0 x t, defers := df } : Act).put o.dst v = { tmps := fill l 0 (upd x i v) t, defers := df } := by
  cases hd : o.dst with
  | none =>
    simp only [Act.put]
    congr 1
    refine Array.ext_getElem? fun j => fill_ne l 0 _ _ t t j rfl rfl fun i' o' ho' hd' => ?_
    have : i' ≠ i := fun e => by subst e; rw [ho] at ho'; cases ho'; rw [hd] at hd'; cases hd'
    simp [upd, this]
  | some d =>
    simp only [Act.put]
    congr 1
    refine Array.ext_getElem? fun j => ?_
    by_cases e : d = j
    · subst e
      by_cases hs : d < t.size
      · rw [fill_at l 0 _ t i o d ho hd (fun i' o' h1 h2 => apart_of h ho h1 hd h2) hs]
        simp [Array.getElem?_setIfInBounds, fill_size, hs, upd]
      · rw [Array.getElem?_eq_none (by simp only [Array.size_setIfInBounds, fill_size]; exact Nat.le_of_not_lt hs), Array.getElem?_eq_none (by simp only [Array.size_setIfInBounds, fill_size]; exact Nat.le_of_not_lt hs)]
    · rw [Array.getElem?_setIfInBounds, if_neg e]
      refine fill_ne l 0 _ _ t t j rfl rfl fun i' o' ho' hd' => ?_
      have : i' ≠ i := fun e' => by subst e'; rw [ho] at ho'; cases ho'; rw [hd] at hd'; cases hd'; exact e rfl
      simp [upd, this]

theorem fill_id : ∀ (l : List Oper) (k : Nat) (x : Nat → Value) (t : Array Value), (∀ i o d, l[i]? = some o → o.dst = some d → x (k + i) = t.getD d undef) → fill l k x t = t
  | [], _, _, _, _ => rfl
  | o :: r, k, x, t, h => by
    unfold fill
    have h0 : (match o.dst with | some d => t.setIfInBounds d (x k) | none => t) = t := by
      cases hd : o.dst with
      | none => rfl
      | some d =>
        have := h 0 o d (by simp) hd
        simp only [Nat.add_zero] at this
        refine Array.ext_getElem? fun j => ?_
        rw [Array.getElem?_setIfInBounds]
        split
        · rename_i e; subst e
          by_cases hs : d < t.size
          · simp [hs, this, Array.getD]
          · simp [hs]
        · rfl
    rw [h0]
    exact fill_id r (k + 1) x t fun i o' d ho hd => by have := h (i + 1) o' d (by simpa using ho) hd; rwa [Nat.add_assoc, Nat.add_comm 1 i]

/-- What operation o waits for, among the operations. -/
def waits (md : Region.Mode) (o : Oper) : List Nat := (o.after.toList.filter fun e => Region.binds md e).map (·.on)

/-- Each waits but for earlier ones. -/
def topoB (md : Region.Mode) (l : List Oper) : Bool := (List.range l.length).all fun i => match l[i]? with | some o => (waits md o).all fun j => decide (j < i) | none => true

def holds (V : Nat → World → Value → Prop) (w : World) (x : Nat → Value) : List Nat → Prop
  | [] => True
  | i :: r => V i w (x i) ∧ holds V w x r

theorem holds_of {V : Nat → World → Value → Prop} {w : World} {x : Nat → Value} : ∀ {l : List Nat}, (∀ i ∈ l, V i w (x i)) → holds V w x l
  | [], _ => trivial
  | i :: r, h => ⟨h i (by simp), holds_of fun j hj => h j (by simp [hj])⟩

def parSteps (P : Program) (md : Region.Mode) (l : List Oper) (Q : Exit → Act → World → Prop) (L : List Nat) (V : Nat → World → Value → Prop) (t : Array Value) (df : List Deferred) (w : World) : List Oper → Nat → Prop
  | [], _ => True
  | o :: r, i => (∀ (x : Nat → Value) (w' : World), Fr L w w' → holds V w' x (waits md o) → ∀ K : Act → World → Prop, Shut (∀ v w'', Fr L w' w'' → V i w'' v → K (({ tmps := fill l 0 x t, defers := df } : Act).put o.dst v) w'') →
      if Region.wanted o (yielded l.toArray ({ tmps := fill l 0 x t, defers := df } : Act).tmps) = true then o.wp P { tmps := fill l 0 x t, defers := df } w' K Q else K (({ tmps := fill l 0 x t, defers := df } : Act).put o.dst undef) w') ∧
    parSteps P md l Q L V t df w r (i + 1)

theorem parSteps_at {P : Program} {md : Region.Mode} {l : List Oper} {Q : Exit → Act → World → Prop} {L : List Nat} {V : Nat → World → Value → Prop} {t : Array Value} {df : List Deferred} {w : World} :
    ∀ {r : List Oper} {k : Nat}, parSteps P md l Q L V t df w r k → ∀ {i : Nat} {o : Oper}, r[i]? = some o →
      ∀ (x : Nat → Value) (w' : World), Fr L w w' → holds V w' x (waits md o) → ∀ K : Act → World → Prop, (∀ v w'', Fr L w' w'' → V (k + i) w'' v → K (({ tmps := fill l 0 x t, defers := df } : Act).put o.dst v) w'') →
      if Region.wanted o (yielded l.toArray ({ tmps := fill l 0 x t, defers := df } : Act).tmps) = true then o.wp P { tmps := fill l 0 x t, defers := df } w' K Q else K (({ tmps := fill l 0 x t, defers := df } : Act).put o.dst undef) w'
  | [], _, _, _, _, h => by simp at h
  | o :: r, k, hh, 0, p, h => by simp at h; subst h; exact hh.1
  | o :: r, k, hh, i + 1, p, h => by
    have := parSteps_at hh.2 (i := i) (by simpa using h)
    rw [show k + (i + 1) = k + 1 + i by omega]; exact this

theorem wpAny_par {P : Program} {md : Region.Mode} {l : List Oper} {Q : Exit → Act → World → Prop} {L : List Nat} {V : Nat → World → Value → Prop} {t : Array Value} {df : List Deferred} {w : World}
    (hA : apartB l = true) (hT : topoB md l = true) (hV : ∀ i w w' v, i < l.length → Fr L w w' → V i w v → V i w' v) (hS : parSteps P md l Q L V t df w l 0)
    (hD : ∀ x w', Fr L w w' → holds V w' x (List.range l.length) → Q .normal { tmps := fill l 0 x t, defers := df } w') :
    ∀ (f : Nat) (listed : Array Bool) (x : Nat → Value) (w' : World), listed.size = l.length → (listed.toList.filter (! ·)).length ≤ f → Fr L w w' → (∀ i, listed[i]? = some true → V i w' (x i)) →
      wpAny P md l.toArray Q f listed { tmps := fill l 0 x t, defers := df } w' := by
  have nil : ∀ (listed : Array Bool) (x : Nat → Value) (w' : World), listed.size = l.length → Fr L w w' → (∀ i, listed[i]? = some true → V i w' (x i)) → Region.ready md l.toArray listed = [] → Q .normal { tmps := fill l 0 x t, defers := df } w' := by
    intro listed x w' hn hf hv hr
    have all : ∀ n i, i < n → i < l.length → listed[i]? = some true := by
      intro n
      induction n with
      | zero => intro i hi; omega
      | succ n ih =>
        intro i hi hil
        by_cases hb : listed[i]? = some true
        · exact hb
        · exfalso
          have hlt : i < listed.size := by omega
          have hb' : listed[i]? = some false := by
            rw [Array.getElem?_eq_getElem hlt] at hb ⊢
            cases hx : listed[i] with
            | false => rfl
            | true => rw [hx] at hb; exact absurd rfl hb
          have : i ∈ Region.ready md l.toArray listed := by
            refine mem_ready.2 ⟨by simp [Array.getD_eq_getD_getElem?, hb'], l[i], by simp [hil], fun e he hbd => ?_⟩
            simp only [topoB, List.all_eq_true, List.mem_range] at hT
            have h1 := hT i hil
            rw [List.getElem?_eq_getElem hil] at h1
            simp only [List.all_eq_true, decide_eq_true_eq] at h1
            have h2 := h1 e.on (by simp only [waits, List.mem_map, List.mem_filter]; exact ⟨e, ⟨by simpa using he, hbd⟩, rfl⟩)
            have h3 := ih e.on (by omega) (by omega)
            simp [Array.getD_eq_getD_getElem?, h3]
          rw [hr] at this
          cases this
    exact hD x w' hf (holds_of fun i hi => hv i (all (i + 1) i (by omega) (List.mem_range.1 hi)))
  intro f
  induction f with
  | zero =>
    intro listed x w' hn hc hf hv
    have hnone : Region.ready md l.toArray listed = [] := by
      rw [List.eq_nil_iff_forall_not_mem]
      intro i hi
      obtain ⟨h1, o, ho, _⟩ := mem_ready.1 hi
      have hil : i < l.length := by have := (Array.getElem?_eq_some_iff.1 ho).1; simpa using this
      have hlt : i < listed.size := by omega
      have : false ∈ listed.toList.filter (! ·) := by
        rw [List.mem_filter]
        refine ⟨?_, rfl⟩
        simp [Array.getD_eq_getD_getElem?, Array.getElem?_eq_getElem hlt] at h1
        rw [← h1]; simp
      rw [List.length_eq_zero_iff.1 (Nat.le_zero.1 hc)] at this
      cases this
    exact ⟨hnone, nil listed x w' hn hf hv hnone⟩
  | succ f ih =>
    intro listed x w' hn hc hf hv
    refine ⟨nil listed x w' hn hf hv, fun i hi => ?_⟩
    obtain ⟨h1, o, ho, h2⟩ := mem_ready.1 hi
    have ho' : l[i]? = some o := by simpa using ho
    have hil : i < l.length := (List.getElem?_eq_some_iff.1 ho').1
    have hlt : i < listed.size := by omega
    have hst := parSteps_at hS ho' x w' hf (holds_of fun j hj => by
      simp only [waits, List.mem_map, List.mem_filter] at hj
      obtain ⟨e, ⟨he, hb⟩, rfl⟩ := hj
      have h3 := h2 e (by simpa using he) hb
      refine hv _ ?_
      rw [Array.getD_eq_getD_getElem?] at h3
      cases h4 : listed[e.on]? with
      | none => rw [h4] at h3; cases h3
      | some b => rw [h4] at h3; simp at h3; rw [h3])
    refine wpOp_step ho fun K' hK => hst K' fun v w'' hf2 hv2 => ?_
    rw [fill_put hA ho']
    refine hK _ _ (ih _ _ _ (by simp [hn]) ?_ (hf.tr hf2) fun j hj => ?_)
    · have h5 : listed[i] = false := by
        simpa [Array.getD_eq_getD_getElem?, Array.getElem?_eq_getElem hlt] using h1
      have key : ∀ (m : List Bool) (i : Nat) (h : i < m.length), m[i] = false → ((m.set i true).filter (! ·)).length + 1 = (m.filter (! ·)).length := by
        intro m
        induction m with
        | nil => intro i h; simp at h
        | cons b m ih2 =>
          intro i h hb
          cases i with
          | zero => simp at hb; subst hb; simp
          | succ i =>
            have := ih2 i (by simpa using h) (by simpa using hb)
            simp only [List.set_cons_succ, List.filter_cons]
            split <;> simp [this]
      have := key listed.toList i (by simpa using hlt) (by simpa using h5)
      simp only [Array.toList_setIfInBounds]
      omega
    · by_cases e : i = j
      · subst e; simp only [upd, if_true]; simpa using hv2
      · rw [Array.getElem?_setIfInBounds, if_neg e] at hj
        simp only [upd, if_neg (Ne.symm e)]
        have hjl : j < l.length := by have := (Array.getElem?_eq_some_iff.1 hj).1; omega
        exact hV j _ _ _ hjl hf2 (hv j hj)

/-- **A region that draws its order, each of whose operations yields a value of which V tells a fact that the others keep.** -/
theorem wp_region_par {P : Program} {id : Nat} {Q : Exit → Act → World → Prop} {t : Array Value} {df : List Deferred} {w : World} {l : List Oper} (L : List Nat) (V : Nat → World → Value → Prop) (hm : P.follows .mixedOrders = true)
    (hA : apartB l = true) (hT : topoB .any l = true) (hV : ∀ i w w' v, i < l.length → Fr L w w' → V i w v → V i w' v) (hS : parSteps P .any l Q L V t df w l 0)
    (hD : ∀ x w', Fr L w w' → holds V w' x (List.range l.length) → Q .normal { tmps := fill l 0 x t, defers := df } w') : (Code.region id l.toArray true).wp P Q { tmps := t, defers := df } w := by
  refine wp_region_any hm ?_
  have h := wpAny_par hA hT hV hS hD l.toArray.size (Array.replicate l.toArray.size false) (fun i => ((l[i]?).bind (·.dst)).elim undef fun d => t.getD d undef) { w with drawn := w.drawn + 1 } (by simp)
    (by simp) ((Fr.refl L w).drewN 1) (fun i hi => by rw [Array.getElem?_replicate] at hi; split at hi <;> cases hi)
  rw [fill_id] at h
  · exact h
  · intro i o d ho hd
    rw [Nat.zero_add, ho]
    simp [hd]

/-- What must have come up ahead of those of acc. -/
def clo (md : Region.Mode) (l : List Oper) : Nat → List Nat → List Nat
  | 0, acc => acc
  | i + 1, acc => clo md l i (if acc.contains i then acc ++ (match l[i]? with | some o => waits md o | none => []) else acc)

theorem clo_of {md : Region.Mode} {l : List Oper} {p : Nat → Prop} (hp : ∀ (j : Nat) (o : Oper), l[j]? = some o → p j → ∀ i ∈ waits md o, p i) : ∀ (k : Nat) (acc : List Nat), (∀ i ∈ acc, p i) → ∀ i ∈ clo md l k acc, p i
  | 0, acc, h => h
  | k + 1, acc, h => by
    unfold clo
    refine clo_of hp k _ fun i hi => ?_
    split at hi
    · rename_i hk
      rcases List.mem_append.1 hi with h1 | h1
      · exact h i h1
      · cases ho : l[k]? with
        | none => rw [ho] at h1; cases h1
        | some o => rw [ho] at h1; exact hp k o ho (h k (by simpa using hk)) i h1
    · exact h i hi

theorem wpAny_parL {P : Program} {md : Region.Mode} {l : List Oper} {z : Oper} {Q : Exit → Act → World → Prop} {L : List Nat} {V : Nat → World → Value → Prop} {t : Array Value} {df : List Deferred} {w : World}
    (hA : apartB (l ++ [z]) = true) (hT : topoB md (l ++ [z]) = true) (hW : ((List.range l.length).all fun i => (clo md (l ++ [z]) l.length (waits md z)).contains i) = true) (hV : ∀ i w w' v, i < l.length → Fr L w w' → V i w v → V i w' v) (hS : parSteps P md (l ++ [z]) Q L V t df w l 0)
    (hD : ∀ x w', Fr L w w' → holds V w' x (List.range l.length) → if Region.wanted z (yielded (l ++ [z]).toArray ({ tmps := fill (l ++ [z]) 0 x t, defers := df } : Act).tmps) = true then z.wp P { tmps := fill (l ++ [z]) 0 x t, defers := df } w' (Q .normal) Q else Q .normal (({ tmps := fill (l ++ [z]) 0 x t, defers := df } : Act).put z.dst undef) w') :
    ∀ (f : Nat) (listed : Array Bool) (x : Nat → Value) (w' : World), listed.size = l.length + 1 → listed[l.length]? = some false → (∀ (j : Nat) (o : Oper), (l ++ [z])[j]? = some o → listed[j]? = some true → ∀ i ∈ waits md o, listed[i]? = some true) → (listed.toList.filter (! ·)).length ≤ f → Fr L w w' → (∀ i, i < l.length → listed[i]? = some true → V i w' (x i)) →
      wpAny P md (l ++ [z]).toArray Q f listed { tmps := fill (l ++ [z]) 0 x t, defers := df } w' := by
  have hz : (l ++ [z])[l.length]? = some z := by simp
  have nil : ∀ (listed : Array Bool), listed.size = l.length + 1 → listed[l.length]? = some false → Region.ready md (l ++ [z]).toArray listed = [] → False := by
    intro listed hn hlast hr
    have all : ∀ n i, i < n → i < l.length + 1 → listed[i]? = some true := by
      intro n
      induction n with
      | zero => intro i hi; omega
      | succ n ih =>
        intro i hi hil
        by_cases hb : listed[i]? = some true
        · exact hb
        · exfalso
          have hlt : i < listed.size := by omega
          have hb' : listed[i]? = some false := by
            rw [Array.getElem?_eq_getElem hlt] at hb ⊢
            cases hx : listed[i] with
            | false => rfl
            | true => rw [hx] at hb; exact absurd rfl hb
          have hil' : i < (l ++ [z]).length := by simpa using hil
          have : i ∈ Region.ready md (l ++ [z]).toArray listed := by
            refine mem_ready.2 ⟨by simp [Array.getD_eq_getD_getElem?, hb'], (l ++ [z])[i], by rw [List.getElem?_toArray, List.getElem?_eq_getElem hil'], fun e he hbd => ?_⟩
            simp only [topoB, List.all_eq_true, List.mem_range] at hT
            have h1 := hT i hil'
            rw [List.getElem?_eq_getElem hil'] at h1
            simp only [List.all_eq_true, decide_eq_true_eq] at h1
            have h2 := h1 e.on (by simp only [waits, List.mem_map, List.mem_filter]; exact ⟨e, ⟨by simpa using he, hbd⟩, rfl⟩)
            have h3 := ih e.on (by omega) (by omega)
            simp [Array.getD_eq_getD_getElem?, h3]
          rw [hr] at this
          cases this
    have := all (l.length + 1) l.length (by omega) (by omega)
    rw [hlast] at this
    cases this
  have key : ∀ (m : List Bool) (i : Nat) (h : i < m.length), m[i] = false → ((m.set i true).filter (! ·)).length + 1 = (m.filter (! ·)).length := by
    intro m
    induction m with
    | nil => intro i h; simp at h
    | cons b m ih2 =>
      intro i h hb
      cases i with
      | zero => simp at hb; subst hb; simp
      | succ i =>
        have := ih2 i (by simpa using h) (by simpa using hb)
        simp only [List.set_cons_succ, List.filter_cons]
        split <;> simp [this]
  intro f
  induction f with
  | zero =>
    intro listed x w' hn hlast hdc hc hf hv
    exfalso
    have hlt : l.length < listed.size := by omega
    have : false ∈ listed.toList.filter (! ·) := by
      rw [List.mem_filter]
      refine ⟨?_, rfl⟩
      rw [Array.getElem?_eq_getElem hlt, Option.some.injEq] at hlast
      rw [← hlast]; simp
    rw [List.length_eq_zero_iff.1 (Nat.le_zero.1 hc)] at this
    cases this
  | succ f ih =>
    intro listed x w' hn hlast hdc hc hf hv
    refine ⟨fun hr => (nil listed hn hlast hr).elim, fun i hi => ?_⟩
    obtain ⟨h1, o, ho, h2⟩ := mem_ready.1 hi
    have ho' : (l ++ [z])[i]? = some o := by simpa using ho
    have hil : i < l.length + 1 := by have := (List.getElem?_eq_some_iff.1 ho').1; simpa using this
    have hlt : i < listed.size := by omega
    have h5 : listed[i] = false := by
      simpa [Array.getD_eq_getD_getElem?, Array.getElem?_eq_getElem hlt] using h1
    by_cases hiz : i = l.length
    · subst hiz
      rw [hz, Option.some.injEq] at ho'
      subst ho'
      have hwz : ∀ i ∈ waits md z, listed[i]? = some true := fun i hi => by
        simp only [waits, List.mem_map, List.mem_filter] at hi
        obtain ⟨e, ⟨he, hb⟩, rfl⟩ := hi
        have h4 := h2 e (by simpa using he) hb
        rw [Array.getD_eq_getD_getElem?] at h4
        cases h6 : listed[e.on]? with
        | none => rw [h6] at h4; cases h4
        | some b => rw [h6] at h4; simp at h4; rw [h4]
      have hall : ∀ j, j < l.length → listed[j]? = some true := fun j hj => by
        simp only [List.all_eq_true, List.mem_range, List.contains_eq_mem, decide_eq_true_eq] at hW
        exact clo_of (p := fun j => listed[j]? = some true) hdc _ _ hwz j (hW j hj)
      have hd := hD x w' hf (holds_of fun j hj => hv j (List.mem_range.1 hj) (hall j (List.mem_range.1 hj)))
      have hdone : Region.ready md (l ++ [z]).toArray (listed.setIfInBounds l.length true) = [] := by
        rw [List.eq_nil_iff_forall_not_mem]
        intro k hk
        obtain ⟨g1, p, hp, _⟩ := mem_ready.1 hk
        have hkl : k < l.length + 1 := by have := (Array.getElem?_eq_some_iff.1 hp).1; simpa using this
        rw [Array.getD_eq_getD_getElem?, Array.getElem?_setIfInBounds] at g1
        by_cases e : l.length = k
        · rw [if_pos e, if_pos (by omega)] at g1; simp at g1
        · rw [if_neg e, hall k (by omega)] at g1; simp at g1
      refine wpOp_mono (fun a' w'' hq => wpAny_done hdone hq f) ?_
      unfold wpOp
      rw [show (l ++ [z]).toArray[l.length]? = some z by simp]
      dsimp only
      by_cases hwn : Region.wanted z (yielded (l ++ [z]).toArray (fill (l ++ [z]) 0 x t)) = true
      · rw [if_pos hwn] at hd ⊢
        exact .inl hd
      · rw [if_neg hwn] at hd ⊢
        exact hd
    · have hil' : i < l.length := by omega
      have hol : l[i]? = some o := by rwa [List.getElem?_append_left hil'] at ho'
      have hdc' : ∀ (u : Unit) (j : Nat) (o : Oper), (l ++ [z])[j]? = some o → (listed.setIfInBounds i true)[j]? = some true → ∀ k ∈ waits md o, (listed.setIfInBounds i true)[k]? = some true := fun _ j p hp hj k hk => by
        have keepk : listed[k]? = some true → (listed.setIfInBounds i true)[k]? = some true := fun h => by
          rw [Array.getElem?_setIfInBounds]
          by_cases e : i = k
          · rw [if_pos e, if_pos hlt]
          · rw [if_neg e]; exact h
        by_cases e : i = j
        · subst e
          rw [ho'] at hp
          cases hp
          simp only [waits, List.mem_map, List.mem_filter] at hk
          obtain ⟨e, ⟨he, hb⟩, rfl⟩ := hk
          have h4 := h2 e (by simpa using he) hb
          rw [Array.getD_eq_getD_getElem?] at h4
          refine keepk ?_
          cases h6 : listed[e.on]? with
          | none => rw [h6] at h4; cases h4
          | some b => rw [h6] at h4; simp at h4; rw [h4]
        · rw [Array.getElem?_setIfInBounds, if_neg e] at hj
          exact keepk (hdc j p hp hj k hk)
      have hst := parSteps_at hS hol x w' hf (holds_of fun j hj => by
        simp only [waits, List.mem_map, List.mem_filter] at hj
        obtain ⟨e, ⟨he, hb⟩, rfl⟩ := hj
        have h3 := h2 e (by simpa using he) hb
        have hji : e.on < i := by
          simp only [topoB, List.all_eq_true, List.mem_range] at hT
          have g1 := hT i (by simp; omega)
          rw [ho'] at g1
          simp only [List.all_eq_true, decide_eq_true_eq] at g1
          exact g1 e.on (by simp only [waits, List.mem_map, List.mem_filter]; exact ⟨e, ⟨he, hb⟩, rfl⟩)
        refine hv _ (by omega) ?_
        rw [Array.getD_eq_getD_getElem?] at h3
        cases h4 : listed[e.on]? with
        | none => rw [h4] at h3; cases h3
        | some b => rw [h4] at h3; simp at h3; rw [h3])
      refine wpOp_step ho fun K' hK => hst K' fun v w'' hf2 hv2 => ?_
      rw [fill_put hA ho']
      refine hK _ _ (ih _ _ _ (by simp [hn]) (by rw [Array.getElem?_setIfInBounds, if_neg hiz]; exact hlast) (hdc' ()) ?_ (hf.tr hf2) fun j hjl hj => ?_)
      · have := key listed.toList i (by simpa using hlt) (by simpa using h5)
        simp only [Array.toList_setIfInBounds]
        omega
      · by_cases e : i = j
        · subst e; simp only [upd, if_true]; simpa using hv2
        · rw [Array.getElem?_setIfInBounds, if_neg e] at hj
          simp only [upd, if_neg (Ne.symm e)]
          exact hV j _ _ _ hjl hf2 (hv j hjl hj)

/-- The same, and the last operation comes alone, behind all others. -/
theorem wp_region_parL {P : Program} {id : Nat} {Q : Exit → Act → World → Prop} {t : Array Value} {df : List Deferred} {w : World} (l : List Oper) (z : Oper) (L : List Nat) (V : Nat → World → Value → Prop) {all : List Oper} (he : all = l ++ [z]) (hm : P.follows .mixedOrders = true)
    (hA : apartB (l ++ [z]) = true) (hT : topoB .any (l ++ [z]) = true) (hW : ((List.range l.length).all fun i => (clo .any (l ++ [z]) l.length (waits .any z)).contains i) = true) (hV : ∀ i w w' v, i < l.length → Fr L w w' → V i w v → V i w' v) (hS : parSteps P .any (l ++ [z]) Q L V t df w l 0)
    (hD : ∀ x w', Fr L w w' → holds V w' x (List.range l.length) → if Region.wanted z (yielded (l ++ [z]).toArray ({ tmps := fill (l ++ [z]) 0 x t, defers := df } : Act).tmps) = true then z.wp P { tmps := fill (l ++ [z]) 0 x t, defers := df } w' (Q .normal) Q else Q .normal (({ tmps := fill (l ++ [z]) 0 x t, defers := df } : Act).put z.dst undef) w') :
    (Code.region id all.toArray true).wp P Q { tmps := t, defers := df } w := by
  subst he
  refine wp_region_any hm ?_
  have h := wpAny_parL hA hT hW hV hS hD (l ++ [z]).toArray.size (Array.replicate (l ++ [z]).toArray.size false) (fun i => (((l ++ [z])[i]?).bind (·.dst)).elim undef fun d => t.getD d undef) { w with drawn := w.drawn + 1 } (by simp) (by simp) (fun j o _ hj => by rw [Array.getElem?_replicate] at hj; split at hj <;> cases hj)
    (by simp) ((Fr.refl L w).drewN 1) (fun i _ hi => by rw [Array.getElem?_replicate] at hi; split at hi <;> cases hi)
  rw [fill_id] at h
  · exact h
  · intro i o d ho hd
    rw [Nat.zero_add, ho]
    simp [hd]

/-- A fact on a value that the others keep. -/
def Keeps (L : List Nat) (p : World → Value → Prop) : Prop := ∀ w w' v, Fr L w w' → p w v → p w' v
def nth : List (World → Value → Prop) → Nat → World → Value → Prop
  | [], _ => fun _ _ => True
  | p :: _, 0 => p
  | _ :: r, i + 1 => nth r i
def KeepsAll (L : List Nat) : List (World → Value → Prop) → Prop
  | [] => True
  | p :: r => Keeps L p ∧ KeepsAll L r
theorem KeepsAll.nth {L : List Nat} : ∀ {l : List (World → Value → Prop)}, KeepsAll L l → ∀ i, Keeps L (nth l i)
  | [], _, _ => fun _ _ _ _ h => h
  | _ :: _, h, 0 => h.1
  | _ :: _, h, i + 1 => KeepsAll.nth h.2 i

/-- It is this value. -/
def Is (v0 : Value) : World → Value → Prop := fun _ v => v = v0
theorem Is.keeps {L : List Nat} (v0 : Value) : Keeps L (Is v0) := fun _ _ _ _ h => h
def Any : World → Value → Prop := fun _ _ => True
theorem Any.keeps {L : List Nat} : Keeps L Any := fun _ _ _ _ h => h
/-- A slice of a block that is not among those that change. -/
def IsSl (L : List Nat) (cs : Array Value) (t : TypeId) (n : Nat) : World → Value → Prop := fun w v => ∃ b, v = .slice (some ⟨b, 0, none⟩) n n ∧ Blk w b cs t ∧ b ∉ L
theorem IsSl.keeps {L : List Nat} (cs : Array Value) (t : TypeId) (n : Nat) : Keeps L (IsSl L cs t n) := fun _ _ _ hf ⟨b, e, h, hn⟩ => ⟨b, e, h.fr hf hn, hn⟩

theorem IsSl.new (cs : Array Value) (t : TypeId) (n : Nat) (w : World) : IsSl [] cs t n (w.alloc (.cells cs t)) (.slice (some ⟨w.heap.size, 0, none⟩) n n) := ⟨_, rfl, Blk.new _ _ _, by simp⟩

/-- What an operation finds, of the slots that the region writes. -/
def holdsA (V : Nat → World → Value → Prop) (w : World) (a : Act) (l : List Oper) : List Nat → Prop
  | [] => True
  | i :: r => (match (l[i]?).bind (·.dst) with | some d => V i w (a.tmps.getD d undef) | none => True) ∧ holdsA V w a l r

/-- The operations, one by one, at whatever state: the slots that the region does not write are as they were. -/
def parStepsA (P : Program) (md : Region.Mode) (l : List Oper) (Q : Exit → Act → World → Prop) (L : List Nat) (V : Nat → World → Value → Prop) (t : Array Value) (w : World) : List Oper → Nat → Prop
  | [], _ => True
  | o :: r, i => (∀ (a : Act) (w' : World), Fr L w w' → (∀ k, (l.all fun o => o.dst != some k) = true → a.tmps.getD k undef = t.getD k undef) → holdsA V w' a l (waits md o) → ∀ K : Act → World → Prop, Shut (∀ v w'', Fr L w' w'' → V i w'' v → K (a.put o.dst v) w'') →
      if Region.wanted o (yielded l.toArray a.tmps) = true then o.wp P a w' K Q else K (a.put o.dst undef) w') ∧
    parStepsA P md l Q L V t w r (i + 1)

theorem holdsA_of {V : Nat → World → Value → Prop} {w : World} {x : Nat → Value} {l : List Oper} {t : Array Value} {df : List Deferred} (hA : apartB l = true) (hsz : (l.all fun o => match o.dst with | some d => decide (d < t.size) | none => true) = true) :
    ∀ {m : List Nat}, holds V w x m → holdsA V w { tmps := fill l 0 x t, defers := df } l m
  | [], _ => trivial
  | i :: r, h => by
    refine ⟨?_, holdsA_of hA hsz h.2⟩
    cases ho : l[i]? with
    | none => trivial
    | some o =>
      cases hd : o.dst with
      | none => simp only [Option.bind_some, hd]
      | some d =>
        simp only [Option.bind_some, hd]
        have hs : d < t.size := by
          simp only [List.all_eq_true] at hsz
          have := hsz o (List.mem_of_getElem? ho)
          rw [hd] at this
          simpa using this
        have := fill_at l 0 x t i o d ho hd (fun i' o' h1 h2 => apart_of hA ho h1 hd h2) hs
        rw [Array.getD_eq_getD_getElem?, this]
        simpa using h.1

theorem parSteps_of {P : Program} {md : Region.Mode} {l : List Oper} {Q : Exit → Act → World → Prop} {L : List Nat} {V : Nat → World → Value → Prop} {t : Array Value} {df : List Deferred} {w : World} (hA : apartB l = true) (hsz : (l.all fun o => match o.dst with | some d => decide (d < t.size) | none => true) = true) :
    ∀ {r : List Oper} {k : Nat}, parStepsA P md l Q L V t w r k → parSteps P md l Q L V t df w r k
  | [], _, _ => trivial
  | o :: r, k, h => ⟨fun x w' hf hp K hK => h.1 _ w' hf (fun j hj => by
      rw [Array.getD_eq_getD_getElem?, Array.getD_eq_getD_getElem?, fill_keep l 0 x t j (fun i o' ho' he => by
        simp only [List.all_eq_true, bne_iff_ne, ne_eq] at hj
        exact hj o' (List.mem_of_getElem? ho') he)]) (holdsA_of hA hsz hp) K hK, parSteps_of hA hsz h.2⟩

theorem wp_region_keeps {P : Program} {id : Nat} {Q : Exit → Act → World → Prop} {t : Array Value} {df : List Deferred} {w : World} {l : List Oper} (L : List Nat) (Vs : List (World → Value → Prop)) (hm : P.follows .mixedOrders = true)
    (hA : apartB l = true) (hT : topoB .any l = true) (hsz : (l.all fun o => match o.dst with | some d => decide (d < t.size) | none => true) = true) (hV : KeepsAll L Vs) (hS : parStepsA P .any l Q L (nth Vs) t w l 0)
    (hD : ∀ x w', Fr L w w' → holds (nth Vs) w' x (List.range l.length) → Q .normal { tmps := fill l 0 x t, defers := df } w') : (Code.region id l.toArray true).wp P Q { tmps := t, defers := df } w :=
  wp_region_par L (nth Vs) hm hA hT (fun i _ _ _ _ hf h => hV.nth i _ _ _ hf h) (parSteps_of hA hsz hS) hD

/-- The same, and operation number n, the last, comes alone. -/
theorem wp_region_keepsL {P : Program} {id : Nat} {Q : Exit → Act → World → Prop} {t : Array Value} {df : List Deferred} {w : World} {all : List Oper} (L : List Nat) (Vs : List (World → Value → Prop)) (n : Nat) {z : Oper} (hz : all[n]? = some z) (hn : all.length = n + 1) (hm : P.follows .mixedOrders = true)
    (hA : apartB all = true) (hT : topoB .any all = true) (hsz : (all.all fun o => match o.dst with | some d => decide (d < t.size) | none => true) = true) (hW : ((List.range n).all fun i => (clo .any all n (waits .any z)).contains i) = true) (hV : KeepsAll L Vs) (hS : parStepsA P .any all Q L (nth Vs) t w (all.take n) 0)
    (hD : ∀ x w', Fr L w w' → holds (nth Vs) w' x (List.range n) → if Region.wanted z (yielded all.toArray (fill all 0 x t)) = true then z.wp P { tmps := fill all 0 x t, defers := df } w' (Q .normal) Q else Q .normal (({ tmps := fill all 0 x t, defers := df } : Act).put z.dst undef) w') :
    (Code.region id all.toArray true).wp P Q { tmps := t, defers := df } w := by
  have e : all = all.take n ++ [z] := by
    have h1 : n < all.length := by omega
    have h2 : all[n] = z := by
      rw [List.getElem?_eq_getElem h1] at hz; simpa using hz
    rw [← h2, List.take_append_getElem h1, ← hn, List.take_length]
  have hl : (all.take n).length = n := by simp; omega
  have hS' := parSteps_of (df := df) hA hsz hS
  refine wp_region_parL (all.take n) z L (nth Vs) e hm (by rw [← e]; exact hA) (by rw [← e]; exact hT) (by rw [← e, hl]; exact hW) (fun i _ _ _ _ hf h => hV.nth i _ _ _ hf h) (by rw [← e]; exact hS') ?_
  rw [← e, hl]
  exact hD
end Go.Proofs.Ytgmpikaibeenmaa
