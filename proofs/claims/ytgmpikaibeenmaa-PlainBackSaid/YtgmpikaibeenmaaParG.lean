
/- The same as wp_region_keepsT, for operations of which each tells what it may do (St), and which facts it uses up (dead). Plain lemmas over any program. -/
import Derived.Test.YtgmpikaibeenmaaParT
import Derived.Test.YtgmpikaibeenmaaRow
namespace Go.Proofs.Ytgmpikaibeenmaa
open Go.RowKit
set_option linter.unusedVariables false
set_option linter.unusedSimpArgs false
set_option maxRecDepth 100000

/-- Operation j always comes ahead of operation i. -/
def beforeB (md : Region.Mode) (all : List Oper) (i j : Nat) : Bool := match all[i]? with | some o => (clo md all i (waits md o)).contains j | none => false
/-- Who uses a fact up is the last one that waits for it. -/
def deadB (md : Region.Mode) (all : List Oper) (n : Nat) (dead : Nat → Nat → Bool) : Bool := (List.range n).all fun i => (List.range n).all fun j => !dead i j || (List.range n).all fun k => k == j || beforeB md all j k || (match all[k]? with | some o => !(waits md o).contains i | none => true)
theorem dead_of {md : Region.Mode} {all : List Oper} {n : Nat} {dead : Nat → Nat → Bool} (h : deadB md all n dead = true) {i j k : Nat} {o : Oper} (hi : i < n) (hj : j < n) (hd : dead i j = true) (hk : k < n) (ho : all[k]? = some o) (hw : i ∈ waits md o) : k = j ∨ beforeB md all j k = true := by
  simp only [deadB, List.all_eq_true, List.mem_range, Bool.or_eq_true, Bool.not_eq_true', beq_iff_eq] at h
  rcases h i hi j hj with h1 | h1
  · rw [hd] at h1; cases h1
  · rcases h1 k hk with (h2 | h2) | h2
    · exact .inl h2
    · exact .inr h2
    · rw [ho] at h2
      simp only [List.contains_eq_mem, Bool.not_eq_true', decide_eq_false_iff_not] at h2
      exact absurd hw h2
/-- Every operation that does what is bad comes behind this one. -/
def earlyB (md : Region.Mode) (all : List Oper) (n : Nat) (bad : Nat → Bool) (i : Nat) : Bool := (List.range n).all fun k => !bad k || k == i || beforeB md all k i
def live (n : Nat) (dead : Nat → Nat → Bool) : List Nat := (List.range n).filter fun i => (List.range n).all fun j => !dead i j
def parStepsG (F : World → World → Prop) (St : Nat → World → World → Prop) (ea : Nat → Bool) (Bs : World → Prop) (P : Program) (md : Region.Mode) (all l : List Oper) (Q : Exit → Act → World → Prop) (V : Nat → World → Value → Prop) (t : Array Value) (df : List Deferred) (w : World) : List Oper → Nat → Prop
  | [], _ => True
  | o :: r, i => (∀ (x : Nat → Value) (w' : World), F w w' → (ea i = true → Bs w') → holds V w' x (waits md o) → ∀ K : Act → World → Prop, Shut (∀ v w'', St i w' w'' → V i w'' v → K (({ tmps := fill l 0 x t, defers := df } : Act).put o.dst v) w'') →
      if Region.wanted o (yielded all.toArray ({ tmps := fill l 0 x t, defers := df } : Act).tmps) = true then o.wp P { tmps := fill l 0 x t, defers := df } w' K Q else K (({ tmps := fill l 0 x t, defers := df } : Act).put o.dst undef) w') ∧
    parStepsG F St ea Bs P md all l Q V t df w r (i + 1)

theorem parStepsG_at {F : World → World → Prop} {St : Nat → World → World → Prop} {ea : Nat → Bool} {Bs : World → Prop} {P : Program} {md : Region.Mode} {all l : List Oper} {Q : Exit → Act → World → Prop} {V : Nat → World → Value → Prop} {t : Array Value} {df : List Deferred} {w : World} :
    ∀ {r : List Oper} {k : Nat}, parStepsG F St ea Bs P md all l Q V t df w r k → ∀ {i : Nat} {o : Oper}, r[i]? = some o →
      ∀ (x : Nat → Value) (w' : World), F w w' → (ea (k + i) = true → Bs w') → holds V w' x (waits md o) → ∀ K : Act → World → Prop, (∀ v w'', St (k + i) w' w'' → V (k + i) w'' v → K (({ tmps := fill l 0 x t, defers := df } : Act).put o.dst v) w'') →
      if Region.wanted o (yielded all.toArray ({ tmps := fill l 0 x t, defers := df } : Act).tmps) = true then o.wp P { tmps := fill l 0 x t, defers := df } w' K Q else K (({ tmps := fill l 0 x t, defers := df } : Act).put o.dst undef) w'
  | [], _, _, _, _, h => by simp at h
  | o :: r, k, hh, 0, p, h => by simp at h; subst h; exact hh.1
  | o :: r, k, hh, i + 1, p, h => by
    have := parStepsG_at hh.2 (i := i) (by simpa using h)
    rw [show k + (i + 1) = k + 1 + i by omega]; exact this

theorem wpAny_parG {F : World → World → Prop} {St : Nat → World → World → Prop} {bad : Nat → Bool} {Bs : World → Prop} {dead : Nat → Nat → Bool} {P : Program} {md : Region.Mode} {l zs : List Oper} {Q : Exit → Act → World → Prop} {V : Nat → World → Value → Prop} {t : Array Value} {df : List Deferred} {w : World}
    (hA : apartB l = true) (hT : topoB md (l ++ zs) = true) (hW : tailB md (l ++ zs) l.length = true) (hF : ∀ i w' w'', i < l.length → F w w' → St i w' w'' → F w w'') (hV : ∀ i j w' w'' v, i < l.length → j < l.length → i ≠ j → dead i j = false → beforeB md (l ++ zs) i j = false → (∀ c, c < l.length → dead i c = true → beforeB md (l ++ zs) j c = false) → F w w' → St j w' w'' → V i w' v → V i w'' v) (hDead : deadB md (l ++ zs) l.length dead = true) (hB : ∀ i w' w'', i < l.length → bad i = false → F w w' → St i w' w'' → Bs w' → Bs w'') (hS : parStepsG F St (earlyB md (l ++ zs) l.length bad) Bs P md (l ++ zs) l Q V t df w l 0)
    (hD : ∀ x w', F w w' → holds V w' x (live l.length dead) → wpList P (l ++ zs).toArray Q zs { tmps := fill l 0 x t, defers := df } w') :
    ∀ (f : Nat) (listed : Array Bool) (x : Nat → Value) (w' : World), listed.size = (l ++ zs).length → (∀ i, l.length ≤ i → i < (l ++ zs).length → listed[i]? = some false) → (∀ (j : Nat) (o : Oper), (l ++ zs)[j]? = some o → listed[j]? = some true → ∀ i ∈ waits md o, listed[i]? = some true) → (listed.toList.filter (! ·)).length ≤ f → F w w' → (∀ i, i < l.length → listed[i]? = some true → (∀ j, j < l.length → dead i j = true → listed[j]? ≠ some true) → V i w' (x i)) → ((∀ j, j < l.length → bad j = true → listed[j]? ≠ some true) → Bs w') →
      wpAny P md (l ++ zs).toArray Q f listed { tmps := fill l 0 x t, defers := df } w' := by
  intro f
  induction f with
  | zero =>
    intro listed x w' hn hlast hdc hc hf hv hbs
    have hfa : ∀ i, i < listed.size → listed[i]? = some true := fun i hi => by
      cases hb : listed[i] with
      | true => rw [Array.getElem?_eq_getElem hi, hb]
      | false =>
        exfalso
        have : false ∈ listed.toList.filter (! ·) := by
          rw [List.mem_filter]
          exact ⟨by rw [← hb]; simp, rfl⟩
        rw [List.length_eq_zero_iff.1 (Nat.le_zero.1 hc)] at this
        cases this
    have hzn : zs = [] := by
      cases zs with
      | nil => rfl
      | cons z zs =>
        exfalso
        have h1 := hlast l.length (Nat.le_refl _) (by simp)
        rw [hfa l.length (by simp at hn; omega)] at h1
        cases h1
    refine wpAny_tail hT hW zs l.length 0 listed _ w' (Nat.le_refl _) (by simp) hn (fun i hi => ?_) hc (hD x w' hf (holds_of fun j hj => by
      simp only [live, List.mem_filter, List.mem_range, List.all_eq_true, Bool.not_eq_true'] at hj
      exact hv j hj.1 (hfa j (by simp at hn; omega)) fun k hk hd => by rw [hj.2 k hk] at hd; cases hd))
    rw [hfa i hi]
    subst hzn
    simp at hn
    simp; omega
  | succ f ih =>
    intro listed x w' hn hlast hdc hc hf hv hbs
    by_cases hall : ∀ j, j < l.length → listed[j]? = some true
    · refine wpAny_tail hT hW zs l.length (f + 1) listed _ w' (Nat.le_refl _) (by simp) hn (fun i hi => ?_) hc (hD x w' hf (holds_of fun j hj => by
        simp only [live, List.mem_filter, List.mem_range, List.all_eq_true, Bool.not_eq_true'] at hj
        exact hv j hj.1 (hall j hj.1) fun k hk hd => by rw [hj.2 k hk] at hd; cases hd))
      by_cases h : i < l.length
      · rw [hall i h]; simp [h]
      · rw [hlast i (by omega) (by omega)]; simp [h]
    · have key : ∀ i ∈ Region.ready md (l ++ zs).toArray listed, i < l.length := fun i hi => by
        obtain ⟨h1, o, ho, h2⟩ := mem_ready.1 hi
        have ho' : (l ++ zs)[i]? = some o := by simpa using ho
        have hil : i < (l ++ zs).length := (List.getElem?_eq_some_iff.1 ho').1
        by_cases hc2 : i < l.length
        · exact hc2
        · exfalso
          apply hall
          intro j hj
          simp only [tailB, List.all_eq_true, List.mem_range, Bool.or_eq_true, decide_eq_true_eq] at hW
          rcases hW i hil with h3 | h3
          · exact absurd h3 hc2
          · have h4 := h3 j (by omega)
            rw [ho'] at h4
            simp only [List.contains_eq_mem, decide_eq_true_eq] at h4
            refine clo_of (p := fun j => listed[j]? = some true) hdc _ _ (fun q hq => ?_) j h4
            simp only [waits, List.mem_map, List.mem_filter] at hq
            obtain ⟨e, ⟨he, hb⟩, rfl⟩ := hq
            have h6 := h2 e (by simpa using he) hb
            rw [Array.getD_eq_getD_getElem?] at h6
            cases h7 : listed[e.on]? with
            | none => rw [h7] at h6; cases h6
            | some b => rw [h7] at h6; simp at h6; rw [h6]
      refine ⟨fun hr => ?_, fun i hi => ?_⟩
      · exfalso
        apply hall
        have all : ∀ n i, i < n → i < l.length → listed[i]? = some true := by
          intro n
          induction n with
          | zero => intro i hi; omega
          | succ n ih2 =>
            intro i hi hil
            by_cases hb : listed[i]? = some true
            · exact hb
            · exfalso
              have hlt : i < listed.size := by simp at hn; omega
              have hb' : listed[i]? = some false := by
                rw [Array.getElem?_eq_getElem hlt] at hb ⊢
                cases hx : listed[i] with
                | false => rfl
                | true => rw [hx] at hb; exact absurd rfl hb
              have hil' : i < (l ++ zs).length := by simp; omega
              have : i ∈ Region.ready md (l ++ zs).toArray listed := by
                refine mem_ready.2 ⟨by simp [Array.getD_eq_getD_getElem?, hb'], (l ++ zs)[i], by rw [List.getElem?_toArray, List.getElem?_eq_getElem hil'], fun e he hbd => ?_⟩
                simp only [topoB, List.all_eq_true, List.mem_range] at hT
                have h1 := hT i hil'
                rw [List.getElem?_eq_getElem hil'] at h1
                simp only [List.all_eq_true, decide_eq_true_eq] at h1
                have h2 := h1 e.on (by simp only [waits, List.mem_map, List.mem_filter]; exact ⟨e, ⟨by simpa using he, hbd⟩, rfl⟩)
                have h3 := ih2 e.on (by omega) (by omega)
                simp [Array.getD_eq_getD_getElem?, h3]
              rw [hr] at this
              cases this
        exact fun j hj => all (j + 1) j (by omega) hj
      · have hil := key i hi
        obtain ⟨h1, o, ho, h2⟩ := mem_ready.1 hi
        have ho' : (l ++ zs)[i]? = some o := by simpa using ho
        have hol : l[i]? = some o := by rwa [List.getElem?_append_left hil] at ho'
        have hlt : i < listed.size := by simp at hn; omega
        have h5 : listed[i] = false := by
          simpa [Array.getD_eq_getD_getElem?, Array.getElem?_eq_getElem hlt] using h1
        have hwz : ∀ q ∈ waits md o, listed[q]? = some true := fun q hq => by
          simp only [waits, List.mem_map, List.mem_filter] at hq
          obtain ⟨e, ⟨he, hb⟩, rfl⟩ := hq
          have h6 := h2 e (by simpa using he) hb
          rw [Array.getD_eq_getD_getElem?] at h6
          cases h7 : listed[e.on]? with
          | none => rw [h7] at h6; cases h6
          | some b => rw [h7] at h6; simp at h6; rw [h6]
        have hlow : ∀ q ∈ waits md o, q < l.length := fun q hq => by
          simp only [topoB, List.all_eq_true, List.mem_range] at hT
          have g1 := hT i (by simp; omega)
          rw [ho'] at g1
          simp only [List.all_eq_true, decide_eq_true_eq] at g1
          have := g1 q hq
          omega
        have hst := parStepsG_at hS hol x w' hf (fun he => hbs fun j hj hbj hlj => by
          rw [Nat.zero_add] at he
          simp only [earlyB, List.all_eq_true, List.mem_range, Bool.or_eq_true, Bool.not_eq_true', beq_iff_eq] at he
          rcases he j hj with (h9 | h9) | h9
          · rw [hbj] at h9; cases h9
          · subst h9; rw [Array.getElem?_eq_getElem hlt, h5] at hlj; cases hlj
          · unfold beforeB at h9
            have hjl' : j < (l ++ zs).length := by simp; omega
            rw [List.getElem?_eq_getElem hjl'] at h9
            simp only [List.contains_eq_mem, decide_eq_true_eq] at h9
            have := clo_of (md := md) (l := l ++ zs) (p := fun q => listed[q]? = some true) hdc j _ (hdc j _ (List.getElem?_eq_getElem hjl') hlj) i h9
            rw [Array.getElem?_eq_getElem hlt, h5] at this
            cases this) (holds_of fun j hj => hv _ (hlow j hj) (hwz j hj) fun k hk hd => by
          rcases dead_of hDead (hlow j hj) hk hd hil ho' hj with this | h9
          · subst this
            rw [Array.getElem?_eq_getElem hlt, h5]; simp
          · intro hlj
            unfold beforeB at h9
            have hjl' : k < (l ++ zs).length := by simp; omega
            rw [List.getElem?_eq_getElem hjl'] at h9
            simp only [List.contains_eq_mem, decide_eq_true_eq] at h9
            have := clo_of (md := md) (l := l ++ zs) (p := fun q => listed[q]? = some true) hdc k _ (hdc k _ (List.getElem?_eq_getElem hjl') hlj) i h9
            rw [Array.getElem?_eq_getElem hlt, h5] at this
            cases this)
        refine wpOp_step ho fun K' hK => hst K' fun v w'' hf2 hv2 => ?_
        rw [fill_put hA hol]
        have keepk : ∀ k, listed[k]? = some true → (listed.setIfInBounds i true)[k]? = some true := fun k h => by
          rw [Array.getElem?_setIfInBounds]
          by_cases e : i = k
          · rw [if_pos e, if_pos (e ▸ hlt)]
          · rw [if_neg e]; exact h
        refine hK _ _ (ih _ _ _ (by simpa using hn) (fun j hj hj2 => ?_) (fun j p hp hj k hk => ?_) ?_ (hF i _ _ hil hf (by rw [Nat.zero_add] at hf2; exact hf2)) (fun j hjl hj hjd => ?_) (fun hnb => ?_))
        · rw [Array.getElem?_setIfInBounds, if_neg (by omega)]; exact hlast j hj hj2
        · by_cases e : i = j
          · subst e
            rw [ho'] at hp
            cases hp
            exact keepk k (hwz k hk)
          · rw [Array.getElem?_setIfInBounds, if_neg e] at hj
            exact keepk k (hdc j p hp hj k hk)
        · have := count_set listed.toList i (by simpa using hlt) (by simpa using h5)
          simp only [Array.toList_setIfInBounds]
          omega
        · by_cases e : i = j
          · subst e; simp only [upd, if_true]; simpa using hv2
          · rw [Array.getElem?_setIfInBounds, if_neg e] at hj
            simp only [upd, if_neg (Ne.symm e)]
            have hdf : dead j i = false := by
              cases hd : dead j i with
              | false => rfl
              | true => exact absurd (by rw [Array.getElem?_setIfInBounds, if_pos rfl, if_pos hlt]) (hjd i hil hd)
            have hbf : beforeB md (l ++ zs) j i = false := by
              cases hd : beforeB md (l ++ zs) j i with
              | false => rfl
              | true =>
                exfalso
                unfold beforeB at hd
                have hjl' : j < (l ++ zs).length := by simp; omega
                rw [List.getElem?_eq_getElem hjl'] at hd
                simp only [List.contains_eq_mem, decide_eq_true_eq] at hd
                have := clo_of (md := md) (l := l ++ zs) (p := fun q => listed[q]? = some true) hdc j _ (hdc j _ (List.getElem?_eq_getElem hjl') hj) i hd
                rw [Array.getElem?_eq_getElem hlt, h5] at this
                cases this
            have hnc : ∀ c, c < l.length → dead j c = true → beforeB md (l ++ zs) i c = false := by
              intro c hc hdc2
              cases hd : beforeB md (l ++ zs) i c with
              | false => rfl
              | true =>
                exfalso
                unfold beforeB at hd
                rw [ho'] at hd
                simp only [List.contains_eq_mem, decide_eq_true_eq] at hd
                exact hjd c hc hdc2 (keepk c (clo_of (md := md) (l := l ++ zs) (p := fun q => listed[q]? = some true) hdc i _ hwz c hd))
            refine hV j i _ _ _ hjl hil (Ne.symm e) hdf hbf hnc hf (by rw [Nat.zero_add] at hf2; exact hf2) (hv j hjl hj fun k hk hd hk2 => hjd k hk hd (keepk k hk2))
        · have hbi : bad i = false := by
            cases hb : bad i with
            | false => rfl
            | true => exact absurd (by rw [Array.getElem?_setIfInBounds, if_pos rfl, if_pos hlt]) (hnb i hil hb)
          exact hB i _ _ hil hbi hf (by rw [Nat.zero_add] at hf2; exact hf2) (hbs fun j hj hbj hlj => hnb j hj hbj (keepk j hlj))

def parStepsAG (F : World → World → Prop) (St : Nat → World → World → Prop) (ea : Nat → Bool) (Bs : World → Prop) (P : Program) (md : Region.Mode) (l : List Oper) (Q : Exit → Act → World → Prop) (V : Nat → World → Value → Prop) (t : Array Value) (w : World) : List Oper → Nat → Prop
  | [], _ => True
  | o :: r, i => (∀ (a : Act) (w' : World), F w w' → (ea i = true → Bs w') → (∀ k, (l.all fun o => o.dst != some k) = true → a.tmps.getD k undef = t.getD k undef) → holdsA V w' a l (waits md o) → ∀ K : Act → World → Prop, Shut (∀ v w'', St i w' w'' → V i w'' v → K (a.put o.dst v) w'') →
      if Region.wanted o (yielded l.toArray a.tmps) = true then o.wp P a w' K Q else K (a.put o.dst undef) w') ∧
    parStepsAG F St ea Bs P md l Q V t w r (i + 1)

theorem parStepsG_of {F : World → World → Prop} {St : Nat → World → World → Prop} {ea : Nat → Bool} {Bs : World → Prop} {P : Program} {md : Region.Mode} {l zs : List Oper} {Q : Exit → Act → World → Prop} {V : Nat → World → Value → Prop} {t : Array Value} {df : List Deferred} {w : World} (hA : apartB l = true) (hT : topoB md (l ++ zs) = true) (hsz : (l.all fun o => match o.dst with | some d => decide (d < t.size) | none => true) = true) :
    ∀ {r : List Oper} {k : Nat}, l.drop k = r → parStepsAG F St ea Bs P md (l ++ zs) Q V t w r k → parStepsG F St ea Bs P md (l ++ zs) l Q V t df w r k
  | [], _, _, _ => trivial
  | o :: r, k, hr, h => by
    have hk : l[k]? = some o := by
      have : (l.drop k)[0]? = some o := by rw [hr]; rfl
      simpa using this
    have hkl : k < l.length := (List.getElem?_eq_some_iff.1 hk).1
    refine ⟨fun x w' hf hb hp K hK => h.1 _ w' hf hb (fun j hj => by
      rw [Array.getD_eq_getD_getElem?, Array.getD_eq_getD_getElem?, fill_keep l 0 x t j (fun i o' ho' he => by
        simp only [List.all_eq_true, bne_iff_ne, ne_eq] at hj
        exact hj o' (List.mem_append_left _ (List.mem_of_getElem? ho')) he)]) (holdsA_ofT hA hsz (fun i hi => ?_) hp) K hK, parStepsG_of hA hT hsz (by rw [← List.drop_drop, hr]; rfl) h.2⟩
    simp only [topoB, List.all_eq_true, List.mem_range] at hT
    have g1 := hT k (by simp; omega)
    rw [List.getElem?_append_left hkl, hk] at g1
    simp only [List.all_eq_true, decide_eq_true_eq] at g1
    have := g1 i hi
    omega

/-- **Operations in any order, each of which tells what it may do, then a row of operations each of which comes alone.** -/
theorem wp_region_keepsG {P : Program} {id : Nat} {Q : Exit → Act → World → Prop} {t : Array Value} {df : List Deferred} {w : World} {all : List Oper} (F : World → World → Prop) (St : Nat → World → World → Prop) (bad : Nat → Bool) (Bs : World → Prop) (dead : Nat → Nat → Bool) (V : Nat → World → Value → Prop) (n : Nat) (hn : decide (n ≤ all.length) = true) (hm : P.follows .mixedOrders = true)
    (hA : apartB (all.take n) = true) (hT : topoB .any all = true) (hsz : ((all.take n).all fun o => match o.dst with | some d => decide (d < t.size) | none => true) = true) (hW : tailB .any all n = true)
    (hF0 : F w { w with drawn := w.drawn + 1 }) (hF : ∀ i w' w'', i < n → F w w' → St i w' w'' → F w w'') (hV : ∀ i j w' w'' v, i < n → j < n → i ≠ j → dead i j = false → beforeB .any all i j = false → (∀ c, c < n → dead i c = true → beforeB .any all j c = false) → F w w' → St j w' w'' → V i w' v → V i w'' v) (hDead : deadB .any all n dead = true) (hB : ∀ i w' w'', i < n → bad i = false → F w w' → St i w' w'' → Bs w' → Bs w'') (hB0 : Bs { w with drawn := w.drawn + 1 }) (hS : parStepsAG F St (earlyB .any all n bad) Bs P .any all Q V t w (all.take n) 0)
    (hD : ∀ x w', F w w' → holds V w' x (live n dead) → wpList P all.toArray Q (all.drop n) { tmps := fill (all.take n) 0 x t, defers := df } w') :
    (Code.region id all.toArray true).wp P Q { tmps := t, defers := df } w := by
  have e : all = all.take n ++ all.drop n := (List.take_append_drop n all).symm
  have hl : (all.take n).length = n := by simp at hn ⊢; omega
  refine wp_region_any hm ?_
  generalize hlz : all.take n = l at *
  generalize all.drop n = zs at *
  subst e
  subst hl
  have hS' := parStepsG_of (df := df) hA hT hsz (k := 0) (by simp) hS
  have h := wpAny_parG (V := V) hA hT hW hF hV hDead hB hS' hD (l ++ zs).toArray.size (Array.replicate (l ++ zs).toArray.size false) (fun i => ((l[i]?).bind (·.dst)).elim undef fun d => t.getD d undef) { w with drawn := w.drawn + 1 } (by simp) (fun i _ hi => by simp at hi; simp [Array.getElem?_replicate, hi]) (fun j o _ hj => by rw [Array.getElem?_replicate] at hj; split at hj <;> cases hj)
    (by simp) hF0 (fun i _ hi => by rw [Array.getElem?_replicate] at hi; split at hi <;> cases hi) (fun _ => hB0)
  rw [fill_id] at h
  · exact h
  · intro i o d ho hd
    rw [Nat.zero_add, ho]
    simp [hd]

/-- What a step may do: lay new memory; or (a step that changes something) change what is of L, or lies from N on. -/
def stC (N : Nat) (L : List Nat) : Bool → World → World → Prop
  | true => fun w w' => ∃ M, Fr M w w' ∧ ∀ x ∈ M, x ∈ L ∨ N ≤ x
  | false => fun w w' => Fr [] w w'
/-- A fact that outlives every such step. -/
def KeepsN (N : Nat) (L : List Nat) (p : World → Value → Prop) : Prop := ∀ M w w' v, (∀ x ∈ M, x ∈ L ∨ N ≤ x) → Fr M w w' → p w v → p w' v
theorem Is.keepsN {N : Nat} {L : List Nat} (v0 : Value) : KeepsN N L (Is v0) := fun _ _ _ _ _ _ h => h
theorem Any.keepsN {N : Nat} {L : List Nat} : KeepsN N L Any := fun _ _ _ _ _ _ h => h
def KeepsC (N : Nat) (L : List Nat) : List (Option Nat) → List (World → Value → Prop) → Prop
  | _, [] => True
  | none :: fr, p :: r => KeepsN N L p ∧ KeepsC N L fr r
  | some _ :: fr, p :: r => Keeps [] p ∧ KeepsC N L fr r
  | [], p :: r => KeepsN N L p ∧ KeepsC N L [] r
theorem KeepsC.nth {N : Nat} {L : List Nat} : ∀ {fr : List (Option Nat)} {l : List (World → Value → Prop)}, KeepsC N L fr l → ∀ i, if fr.getD i none = none then KeepsN N L (nth l i) else Keeps [] (nth l i)
  | [], [], _ => fun i => by simp [Go.Proofs.Ytgmpikaibeenmaa.nth]; exact fun _ _ _ _ _ _ h => h
  | a :: fr, [], _ => fun i => by
    split
    · exact fun _ _ _ _ _ _ h => h
    · exact fun _ _ _ _ h => h
  | none :: _, _ :: _, h => fun i => by
    cases i with
    | zero => simp; exact h.1
    | succ i => simpa [Go.Proofs.Ytgmpikaibeenmaa.nth] using KeepsC.nth h.2 i
  | some _ :: _, _ :: _, h => fun i => by
    cases i with
    | zero => simp; exact h.1
    | succ i => simpa [Go.Proofs.Ytgmpikaibeenmaa.nth] using KeepsC.nth h.2 i
  | [], _ :: r, h => fun i => by
    cases i with
    | zero => simp; exact h.1
    | succ i => have := KeepsC.nth (fr := []) h.2 i; simpa [Go.Proofs.Ytgmpikaibeenmaa.nth] using this
/-- A fact that a changing step may harm: that step uses it up, or is its own, or comes ahead. -/
def fragB (all : List Oper) (n : Nat) (mt : List Bool) (frag : List (Option Nat)) : Bool :=
  (List.range n).all fun i => match frag.getD i none with
    | none => true
    | some c => (List.range n).all fun k => !(mt.getD k false) || k == i || k == c || beforeB .any all i k || (decide (c < n) && beforeB .any all k c)
def deadC (frag : List (Option Nat)) (i j : Nat) : Bool := frag.getD i none == some j
theorem wp_region_keepsC {P : Program} {id : Nat} {Q : Exit → Act → World → Prop} {t : Array Value} {df : List Deferred} {w : World} {all : List Oper} (L : List Nat) (mt : List Bool) (frag : List (Option Nat)) (Bs : World → Prop) (Vs : List (World → Value → Prop)) (n : Nat) (hn : decide (n ≤ all.length) = true) (hm : P.follows .mixedOrders = true)
    (hA : apartB (all.take n) = true) (hT : topoB .any all = true) (hsz : ((all.take n).all fun o => match o.dst with | some d => decide (d < t.size) | none => true) = true) (hW : tailB .any all n = true)
    (hfr : fragB all n mt frag = true) (hDead : deadB .any all n (deadC frag) = true) (hV : KeepsC w.heap.size L frag Vs) (hB : ∀ w w', Fr [] w w' → Bs w → Bs w') (hB0 : Bs w)
    (hS : parStepsAG (Fr L) (fun i => stC w.heap.size L (mt.getD i false)) (earlyB .any all n fun k => mt.getD k false) Bs P .any all Q (Go.Proofs.Ytgmpikaibeenmaa.nth Vs) t w (all.take n) 0)
    (hD : ∀ x w', Fr L w w' → holds (Go.Proofs.Ytgmpikaibeenmaa.nth Vs) w' x (live n (deadC frag)) → wpList P all.toArray Q (all.drop n) { tmps := fill (all.take n) 0 x t, defers := df } w') :
    (Code.region id all.toArray true).wp P Q { tmps := t, defers := df } w := by
  refine wp_region_keepsG (Fr L) (fun i => stC w.heap.size L (mt.getD i false)) (fun k => mt.getD k false) Bs (deadC frag) (Go.Proofs.Ytgmpikaibeenmaa.nth Vs) n hn hm hA hT hsz hW ((Fr.refl L w).drewN 1) ?_ ?_ hDead (fun i w' w'' _ hb _ hs h => by rw [hb] at hs; exact hB _ _ hs h) (hB _ _ ((Fr.refl [] w).drewN 1) hB0) hS hD
  · intro i w' w'' hi hf hs
    cases hmu : mt.getD i false with
    | false => rw [hmu] at hs; exact hf.trans hs (fun _ hx => by cases hx)
    | true => rw [hmu] at hs; obtain ⟨M, h1, h2⟩ := hs; exact hf.trans h1 h2
  · intro i j w' w'' v hi hj hij hd hb hnc hf hs hv
    have hk := hV.nth i
    cases hfi : frag.getD i none with
    | none =>
      rw [hfi, if_pos rfl] at hk
      cases hmu : mt.getD j false with
      | false => rw [hmu] at hs; exact hk [] _ _ _ (fun _ hx => by cases hx) hs hv
      | true => rw [hmu] at hs; obtain ⟨M, h1, h2⟩ := hs; exact hk M _ _ _ h2 h1 hv
    | some c =>
      rw [hfi, if_neg (by simp)] at hk
      cases hmu : mt.getD j false with
      | false => rw [hmu] at hs; exact hk _ _ _ hs hv
      | true =>
        exfalso
        simp only [fragB, List.all_eq_true, List.mem_range] at hfr
        have h1 := hfr i hi
        rw [hfi] at h1
        simp only [List.all_eq_true, List.mem_range, Bool.or_eq_true, Bool.not_eq_true', beq_iff_eq, Bool.and_eq_true, decide_eq_true_eq] at h1
        have h2 := h1 j hj
        rw [hmu, hb] at h2
        simp only [deadC, hfi] at hd
        rcases h2 with (((h2 | h2) | h2) | h2) | h2
        · cases h2
        · exact hij h2.symm
        · subst h2; simp at hd
        · cases h2
        · rw [hnc c h2.1 (by unfold deadC; rw [hfi]; simp)] at h2
          cases h2.2

def Sl.blk (s : Sl) : List Nat := match s.A with | some a => [a.block] | none => []
theorem getD_bool (o : Option Value) (b : Bool) : (o.getD undef = Value.bool b) ↔ o = some (.bool b) := by
  cases o with
  | none => simp [undef]
  | some v => simp
/-- It is this value, and this holds of memory. -/
def IsW (x : Value) (B : World → Prop) : World → Value → Prop := fun w v => v = x ∧ B w
theorem IsW.keeps {x : Value} {B : World → Prop} (h : ∀ w w', Fr [] w w' → B w → B w') : Keeps [] (IsW x B) := fun _ _ _ f ⟨e, hb⟩ => ⟨e, h _ _ f hb⟩
theorem eval_tmp (a : Act) (k : Nat) : a.eval (.tmp k) = a.tmps[k]?.getD undef := by
  show a.tmps.getD k undef = _
  rw [Array.getD_eq_getD_getElem?]
theorem stC_grown {N : Nat} {L : List Nat} {w w' : World} {row : Option Nat} (g : w.grownBy w' row) (h : ∀ k, row = some k → k ∈ L ∨ N ≤ k) : stC N L true w w' := by
  cases row with
  | none => exact ⟨[], (Fr.refl _ _).grown g (fun _ hk => by cases hk), fun _ hx => by cases hx⟩
  | some k => exact ⟨[k], (Fr.refl _ _).grown g (fun j hj => .inl (by cases hj; simp)), fun x hx => by simp at hx; subst hx; exact h _ rfl⟩
/-- A slice of these cells, in a block that lay before. -/
def Rowed (N m : Nat) (xs : List Value) : World → Value → Prop := fun w v => ∃ ad c, v = .slice (some ad) m c ∧ ad.block < N ∧ ∀ j u, xs[j]? = some u → w.cell? (ad.add j) = some u
theorem add_block (ad : Addr) (j : Nat) : (ad.add j).block = ad.block := by
  unfold Addr.add; split <;> rfl
theorem Rowed.keepsN {N m : Nat} {xs : List Value} : KeepsN N [] (Rowed N m xs) := fun M w w' v hM f ⟨ad, c, e, hb, h⟩ =>
  ⟨ad, c, e, hb, fun j u hj => f.cell (h j u hj) fun hm => by
    rw [add_block] at hm
    rcases hM _ hm with h1 | h1
    · cases h1
    · omega⟩
theorem Rowed.fr {N m : Nat} {xs : List Value} {w w' : World} {v : Value} (h : Rowed N m xs w v) (f : Fr [] w w') : Rowed N m xs w' v := by
  obtain ⟨ad, c, e, hb, h⟩ := h
  exact ⟨ad, c, e, hb, fun j u hj => f.cell (h j u hj) (by simp)⟩
/-- A row of its own, that lies from N on. -/
def Own (N : Nat) (e : TypeId) (z n : Nat) (xs : List Value) : World → Value → Prop := fun w v => w.ownsRow N e z v n xs
theorem Own.keeps {N : Nat} {e : TypeId} {z n : Nat} {xs : List Value} : Keeps [] (Own N e z n xs) := fun w w' v f h => by
  refine ⟨h.1, h.2.imp id ?_⟩
  rintro ⟨g, cap, cur, e, hg, hb', r⟩
  exact ⟨g, cap, cur, e, hg, f.keeps hb' (by simp), r⟩
theorem Own.new {N : Nat} {w : World} (e : TypeId) (z : Nat) (h : N ≤ w.heap.size) : Own N e z 0 [] (w.alloc (.cells #[] e)) (.slice (some ⟨w.heap.size, 0, none⟩) 0 0) :=
  ⟨by simp, .inr ⟨w.heap.size, 0, #[], rfl, h, Blk.new w #[] e, Nat.le_refl _, by unfold maxLen; omega, by simp, by simp⟩⟩

theorem run_append_none {P : Program} (w : World) (t ty e : TypeId) (i : TypeInfo) (ht : P.underlying t = some (.slice e)) (hi : P.info? e = some i) (A : Option Addr) (n cap : Nat) (hn : n ≤ cap) :
    (Builtin.append_ #[t, t] ty #[.slice A n cap, .slice none 0 0]).run P w = .ok (.slice A n cap) w := by
  cases A with
  | none => simp [Builtin.append_, run_underlying ht, sizeOf, typeInfo, hi, Builtin.lenOf, Builtin.firstCells, loadCells, loadCellsFrom, hn]
  | some a => simp [Builtin.append_, run_underlying ht, sizeOf, typeInfo, hi, Builtin.lenOf, Builtin.firstCells, loadCells, loadCellsFrom, hn, storeCells]
/-- What a slice holds, nil let in. -/
def Src (m : Nat) (news : List Value) : World → Value → Prop := fun w v => (v = .slice none 0 0 ∧ m = 0 ∧ news = []) ∨ ∃ ad c, v = .slice (some ad) m c ∧ ∀ j u, news[j]? = some u → w.cell? (ad.add j) = some u
theorem Src.fr {m : Nat} {news : List Value} {w w' : World} {v : Value} {L : List Nat} (h : Src m news w v) (f : Fr L w w') (hn : ∀ A n c, v = .slice (some A) n c → A.block ∉ L) : Src m news w' v := by
  rcases h with h | ⟨ad, c, e, h⟩
  · exact .inl h
  · exact .inr ⟨ad, c, e, fun j u hj => f.cell (h j u hj) (by rw [add_block]; exact hn _ _ _ e)⟩
theorem Src.keeps {m : Nat} {news : List Value} : Keeps [] (Src m news) := fun w w' v f h => h.fr f (fun _ _ _ _ => by simp)
theorem Src.ints {k : IntKind} {w : World} {v : Value} {l : List Int} (h : Ints k w v l) : Src l.length (l.map (Value.int k)) w v := by
  rcases h with ⟨rfl, rfl⟩ | ⟨A, cap, rfl, hA⟩
  · exact .inl ⟨rfl, rfl, rfl⟩
  · exact .inr ⟨A, cap, rfl, hA.news⟩
theorem own_cap {w : World} {B : Nat} {e : TypeId} {z n : Nat} {v : Value} {xs : List Value} (h : w.ownsRow B e z v n xs) : ∃ A c, v = .slice A n c ∧ n ≤ c := by
  rcases h.2 with ⟨rfl, rfl⟩ | ⟨g, cap, cur, rfl, _, _, hc, _⟩
  · exact ⟨_, _, rfl, Nat.le_refl _⟩
  · exact ⟨_, _, rfl, hc⟩
theorem World.grownBy_refl (w : World) (row : Option Nat) : w.grownBy w row := ⟨rfl, rfl, rfl, Nat.le_refl _, fun _ _ _ => rfl⟩
theorem wp_append_src {P : Program} {w : World} {o : Oper} {a : Act} {K : Act → World → Prop} {Q : Exit → Act → World → Prop} (s x : Operand) (t : TypeId)
    (ho : o.op = .call { callee := .builtin .append, args := #[s, x], argTypes := #[t, t] })
    (base : Nat) (e : TypeId) (i : TypeInfo) (z : Value) (size bytes : Nat) (ht : P.underlying t = some (.slice e)) (hi : P.info? e = some i) (hz : i.zero = some z)
    (hsize : i.size = size) (hby : i.bytes = bytes) (hzs : z.cells.size = size) (hsz : 0 < size)
    (v : Value) (n : Nat) (xs : List Value) (hs : a.eval s = v) (hown : w.ownsRow base e size v n xs)
    (y : Value) (m : Nat) (news : List Value) (hx : a.eval x = y) (hsrc : Src m news w y) (hl : news.length = m * size) (h1 : ∀ u ∈ news, u.oneCell' = true)
    (h63 : n + m ≤ maxLen) (hbytes : (n + m) * bytes ≤ 140737488355328) (hbase : base ≤ w.heap.size)
    (h : ∀ v' w', w'.ownsRow base e size v' (n + m) (xs ++ news) → w.grownBy w' v.ownBlock → K (a.put o.dst v') w') : o.wp P a w K Q := by
  rcases hsrc with ⟨rfl, rfl, rfl⟩ | ⟨ad, c, rfl, hnews⟩
  · obtain ⟨A, cap, rfl, hc⟩ := own_cap hown
    have hr := run_append_none (P := P) w t o.type e i ht hi A n cap hc
    unfold Oper.wp execOp
    simp only [ho, resolve, invoke, builtin, Sem.run_bind, Sem.run_pure, Result.andThen_ok, List.map_toArray, List.map_cons, List.map_nil, hs, hx, hr]
    exact h _ _ (by simpa using hown) (World.grownBy_refl _ _)
  · exact wp_append_own w s x t ho base e i z size bytes ht hi hz hsize hby hzs hsz v n xs hs hown ad m c news hx hl hnews h1 h63 hbytes hbase fun v' w' h2 h3 _ => h v' w' h2 h3
theorem wpList_append_src {P : Program} {w : World} {ops : Array Oper} {rest : List Oper} {o : Oper} {a : Act} {Q : Exit → Act → World → Prop} (hgd : o.guard = none) (s x : Operand) (t : TypeId)
    (ho : o.op = .call { callee := .builtin .append, args := #[s, x], argTypes := #[t, t] })
    (base : Nat) (e : TypeId) (i : TypeInfo) (z : Value) (size bytes : Nat) (ht : P.underlying t = some (.slice e)) (hi : P.info? e = some i) (hz : i.zero = some z)
    (hsize : i.size = size) (hby : i.bytes = bytes) (hzs : z.cells.size = size) (hsz : 0 < size)
    (v : Value) (n : Nat) (xs : List Value) (hs : a.eval s = v) (hown : w.ownsRow base e size v n xs)
    (y : Value) (m : Nat) (news : List Value) (hx : a.eval x = y) (hsrc : Src m news w y) (hl : news.length = m * size) (h1 : ∀ u ∈ news, u.oneCell' = true)
    (h63 : n + m ≤ maxLen) (hbytes : (n + m) * bytes ≤ 140737488355328) (hbase : base ≤ w.heap.size)
    (h : ∀ v' w', w'.ownsRow base e size v' (n + m) (xs ++ news) → w.grownBy w' v.ownBlock → wpList P ops Q rest (a.put o.dst v') w') : wpList P ops Q (o :: rest) a w :=
  wpList_plain hgd fun _ hK => wp_append_src s x t ho base e i z size bytes ht hi hz hsize hby hzs hsz v n xs hs hown y m news hx hsrc hl h1 h63 hbytes hbase fun v' w' h2 h3 => hK _ _ (h v' w' h2 h3)

/-- An empty slice of its own, without room. -/
def Bare (N : Nat) (e : TypeId) (z : Nat) : World → Value → Prop := fun w v => ∃ g, v = .slice (some ⟨g, 0, none⟩) 0 0 ∧ w.ownsRow N e z v 0 []
theorem Bare.keeps {N : Nat} {e : TypeId} {z : Nat} : Keeps [] (Bare N e z) := fun w w' v f ⟨g, h, ho⟩ => ⟨g, h, Own.keeps w w' v f ho⟩
theorem Bare.new {N : Nat} {w : World} (e : TypeId) (z : Nat) (h : N ≤ w.heap.size) : Bare N e z (w.alloc (.cells #[] e)) (.slice (some ⟨w.heap.size, 0, none⟩) 0 0) := ⟨_, rfl, Own.new e z h⟩
theorem run_append_bare {P : Program} {w : World} (base : Nat) (t ty e : TypeId) (i : TypeInfo) (z : Value) (size bytes : Nat) (ht : P.underlying t = some (.slice e)) (hi : P.info? e = some i) (hz : i.zero = some z)
    (hsize : i.size = size) (hby : i.bytes = bytes) (hzs : z.cells.size = size) (hsz : 0 < size)
    (v : Value) (hb : Bare base e size w v) (y : Value) (m : Nat) (news : List Value) (hsrc : Src m news w y) (hl : news.length = m * size) (h1 : ∀ u ∈ news, u.oneCell' = true)
    (h63 : m ≤ maxLen) (hbytes : m * bytes ≤ 140737488355328) (hbase : base ≤ w.heap.size) :
    ∃ v' w', (Builtin.append_ #[t, t] ty #[v, y]).run P w = .ok v' w' ∧ w'.ownsRow base e size v' m news ∧ Fr [] w w' := by
  obtain ⟨g, rfl, ho⟩ := hb
  rcases hsrc with ⟨rfl, rfl, rfl⟩ | ⟨a, c, rfl, hnews⟩
  · exact ⟨_, _, run_append_none w t ty e i ht hi _ 0 0 (Nat.le_refl _), ho, Fr.refl _ _⟩
  · by_cases hm : m = 0
    · subst hm
      have hn : news = [] := List.eq_nil_of_length_eq_zero (by simpa using hl)
      subst hn
      have hf := run_firstCells_some (P := P) w i.size 0 a 0 c [] (by simp) (by simp)
      refine ⟨_, w, ?_, ho, Fr.refl _ _⟩
      simp [Builtin.append_, run_underlying ht, sizeOf, typeInfo, hi, Builtin.lenOf, hf, storeCells]
    · obtain ⟨v', w', hr, h2, -, -⟩ := run_append_own (P := P) w base t ty e i z size bytes ht hi hz hsize hby hzs hsz _ 0 [] ho a m c news hl hnews h1 (by omega) (by simpa using hbytes) hbase
      have hr2 := run_append_grow (P := P) w t ty e i z ht hi hz ⟨g, 0, none⟩ 0 0 [] (by simp) (by simp) a m c news (by rw [hsize]; exact hl) hnews (by omega) (by unfold maxLen at h63; omega) (growslice_fits (by omega) (by rw [hby]; simpa using hbytes))
      rw [hr] at hr2
      injection hr2 with e1 e2
      rw [Nat.zero_add, List.nil_append] at h2
      refine ⟨v', w', hr, h2, ?_⟩
      rw [e2]
      exact ((Fr.refl _ _).drew).alloc _
theorem wp_append_bare {P : Program} {w : World} {o : Oper} {a : Act} {K : Act → World → Prop} {Q : Exit → Act → World → Prop} (s x : Operand) (t : TypeId)
    (ho : o.op = .call { callee := .builtin .append, args := #[s, x], argTypes := #[t, t] })
    (base : Nat) (e : TypeId) (i : TypeInfo) (z : Value) (size bytes : Nat) (ht : P.underlying t = some (.slice e)) (hi : P.info? e = some i) (hz : i.zero = some z)
    (hsize : i.size = size) (hby : i.bytes = bytes) (hzs : z.cells.size = size) (hsz : 0 < size)
    (v : Value) (hs : a.eval s = v) (hb : Bare base e size w v)
    (y : Value) (m : Nat) (news : List Value) (hx : a.eval x = y) (hsrc : Src m news w y) (hl : news.length = m * size) (h1 : ∀ u ∈ news, u.oneCell' = true)
    (h63 : m ≤ maxLen) (hbytes : m * bytes ≤ 140737488355328) (hbase : base ≤ w.heap.size)
    (h : ∀ v' w', w'.ownsRow base e size v' m news → Fr [] w w' → K (a.put o.dst v') w') : o.wp P a w K Q := by
  obtain ⟨v', w', hr, h2, h3⟩ := run_append_bare (P := P) (w := w) base t o.type e i z size bytes ht hi hz hsize hby hzs hsz v hb y m news hsrc hl h1 h63 hbytes hbase
  unfold Oper.wp execOp
  simp only [ho, resolve, invoke, builtin, Sem.run_bind, Sem.run_pure, Result.andThen_ok, List.map_toArray, List.map_cons, List.map_nil, hs, hx, hr]
  exact h v' w' h2 h3
theorem Rowed.src {N m : Nat} {xs : List Value} {w : World} {v : Value} (h : Rowed N m xs w v) : Src m xs w v := by
  obtain ⟨ad, c, e, _, hc⟩ := h
  exact .inr ⟨ad, c, e, hc⟩
/-- What a slice holds that does not lie in L, nor from N on. -/
def SrcO (N : Nat) (L : List Nat) (m : Nat) (xs : List Value) : World → Value → Prop := fun w v => Src m xs w v ∧ ∀ A n c, v = .slice (some A) n c → A.block < N ∧ A.block ∉ L
theorem SrcO.keepsN {N m : Nat} {L : List Nat} {xs : List Value} : KeepsN N L (SrcO N L m xs) := fun M w w' v hM f ⟨h, ho⟩ =>
  ⟨h.fr f fun A n c e hm => by rcases hM _ hm with h1 | h1; exact (ho A n c e).2 h1; have := (ho A n c e).1; omega, ho⟩
/-- One element, in a fresh block. -/
theorem Src.one {w : World} {cs : Array Value} {t : TypeId} : Src 1 cs.toList (w.alloc (.cells cs t)) (.slice (some ⟨w.heap.size, 0, none⟩) 1 1) :=
  .inr ⟨_, _, rfl, fun j u hj => by rw [Go.WideShapes.add_plain, Nat.zero_add]; exact (Blk.new w cs t).cell j (by simpa using hj)⟩
end Go.Proofs.Ytgmpikaibeenmaa
