
/- The same as wp_region_keepsT, and one of the operations may change blocks L of which the others only tell what does not hang on them. Plain lemmas over any program. -/
import Derived.Test.YtgmpikaibeenmaaParT
namespace Go.Proofs.Ytgmpikaibeenmaa
open Go.RowKit
set_option linter.unusedVariables false
set_option linter.unusedSimpArgs false
set_option maxRecDepth 100000

abbrev rl (s : Nat) (L : List Nat) (i : Nat) : List Nat := if i = s then L else []
abbrev kl (s : Nat) (L : List Nat) (i : Nat) : List Nat := if i = s then [] else L
theorem Fr.up {L : List Nat} {s i : Nat} {w w' : World} (h : Fr (rl s L i) w w') : Fr L w w' := by
  unfold rl at h; split at h
  · exact h
  · exact h.mono (by simp)
theorem Fr.kl {L : List Nat} {s i j : Nat} {w w' : World} (h : Fr (rl s L j) w w') (hne : i ≠ j) : Fr (kl s L i) w w' := by
  by_cases hi : i = s
  · unfold Go.Proofs.Ytgmpikaibeenmaa.kl rl at *
    rw [if_pos hi]
    rw [if_neg (fun e => hne (by rw [hi, e]))] at h
    exact h
  · unfold Go.Proofs.Ytgmpikaibeenmaa.kl
    rw [if_neg hi]
    exact h.up

def parStepsS (s : Nat) (Bs : World → Prop) (P : Program) (md : Region.Mode) (all l : List Oper) (Q : Exit → Act → World → Prop) (L : List Nat) (V : Nat → World → Value → Prop) (t : Array Value) (df : List Deferred) (w : World) : List Oper → Nat → Prop
  | [], _ => True
  | o :: r, i => (∀ (x : Nat → Value) (w' : World), Fr L w w' → (i = s → Bs w') → holds V w' x (waits md o) → ∀ K : Act → World → Prop, Shut (∀ v w'', Fr (rl s L i) w' w'' → V i w'' v → K (({ tmps := fill l 0 x t, defers := df } : Act).put o.dst v) w'') →
      if Region.wanted o (yielded all.toArray ({ tmps := fill l 0 x t, defers := df } : Act).tmps) = true then o.wp P { tmps := fill l 0 x t, defers := df } w' K Q else K (({ tmps := fill l 0 x t, defers := df } : Act).put o.dst undef) w') ∧
    parStepsS s Bs P md all l Q L V t df w r (i + 1)

theorem parStepsS_at {s : Nat} {Bs : World → Prop} {P : Program} {md : Region.Mode} {all l : List Oper} {Q : Exit → Act → World → Prop} {L : List Nat} {V : Nat → World → Value → Prop} {t : Array Value} {df : List Deferred} {w : World} :
    ∀ {r : List Oper} {k : Nat}, parStepsS s Bs P md all l Q L V t df w r k → ∀ {i : Nat} {o : Oper}, r[i]? = some o →
      ∀ (x : Nat → Value) (w' : World), Fr L w w' → (k + i = s → Bs w') → holds V w' x (waits md o) → ∀ K : Act → World → Prop, (∀ v w'', Fr (rl s L (k + i)) w' w'' → V (k + i) w'' v → K (({ tmps := fill l 0 x t, defers := df } : Act).put o.dst v) w'') →
      if Region.wanted o (yielded all.toArray ({ tmps := fill l 0 x t, defers := df } : Act).tmps) = true then o.wp P { tmps := fill l 0 x t, defers := df } w' K Q else K (({ tmps := fill l 0 x t, defers := df } : Act).put o.dst undef) w'
  | [], _, _, _, _, h => by simp at h
  | o :: r, k, hh, 0, p, h => by simp at h; subst h; exact hh.1
  | o :: r, k, hh, i + 1, p, h => by
    have := parStepsS_at hh.2 (i := i) (by simpa using h)
    rw [show k + (i + 1) = k + 1 + i by omega]; exact this

theorem wpAny_parS {s : Nat} {Bs : World → Prop} {P : Program} {md : Region.Mode} {l zs : List Oper} {Q : Exit → Act → World → Prop} {L : List Nat} {V : Nat → World → Value → Prop} {t : Array Value} {df : List Deferred} {w : World}
    (hA : apartB l = true) (hT : topoB md (l ++ zs) = true) (hW : tailB md (l ++ zs) l.length = true) (hV : ∀ i w w' v, i < l.length → Fr (kl s L i) w w' → V i w v → V i w' v) (hB : ∀ w w', Fr [] w w' → Bs w → Bs w') (hS : parStepsS s Bs P md (l ++ zs) l Q L V t df w l 0)
    (hD : ∀ x w', Fr L w w' → holds V w' x (List.range l.length) → wpList P (l ++ zs).toArray Q zs { tmps := fill l 0 x t, defers := df } w') :
    ∀ (f : Nat) (listed : Array Bool) (x : Nat → Value) (w' : World), listed.size = (l ++ zs).length → (∀ i, l.length ≤ i → i < (l ++ zs).length → listed[i]? = some false) → (∀ (j : Nat) (o : Oper), (l ++ zs)[j]? = some o → listed[j]? = some true → ∀ i ∈ waits md o, listed[i]? = some true) → (listed.toList.filter (! ·)).length ≤ f → Fr L w w' → (∀ i, i < l.length → listed[i]? = some true → V i w' (x i)) → (listed[s]? ≠ some true → Bs w') →
      wpAny P md (l ++ zs).toArray Q f listed { tmps := fill l 0 x t, defers := df } w' := by
  intro f
  induction f with
  | zero =>
    intro listed x w' hn hlast hdc hc hf hv hbs
    have hfa : ∀ i, i < listed.size → listed[i]? = some true := fun i hi => by
      cases hb : listed[i] with
      | true => rw [Array.getElem?_eq_getElem hi, hb]
      | false =>
        exfalso
        have : false ∈ listed.toList.filter (! ·) := by
          rw [List.mem_filter]
          exact ⟨by rw [← hb]; simp, rfl⟩
        rw [List.length_eq_zero_iff.1 (Nat.le_zero.1 hc)] at this
        cases this
    have hzn : zs = [] := by
      cases zs with
      | nil => rfl
      | cons z zs =>
        exfalso
        have h1 := hlast l.length (Nat.le_refl _) (by simp)
        rw [hfa l.length (by simp at hn; omega)] at h1
        cases h1
    refine wpAny_tail hT hW zs l.length 0 listed _ w' (Nat.le_refl _) (by simp) hn (fun i hi => ?_) hc (hD x w' hf (holds_of fun j hj => hv j (List.mem_range.1 hj) (hfa j (by simp at hn hj; omega))))
    rw [hfa i hi]
    subst hzn
    simp at hn
    simp; omega
  | succ f ih =>
    intro listed x w' hn hlast hdc hc hf hv hbs
    by_cases hall : ∀ j, j < l.length → listed[j]? = some true
    · refine wpAny_tail hT hW zs l.length (f + 1) listed _ w' (Nat.le_refl _) (by simp) hn (fun i hi => ?_) hc (hD x w' hf (holds_of fun j hj => hv j (List.mem_range.1 hj) (hall j (List.mem_range.1 hj))))
      by_cases h : i < l.length
      · rw [hall i h]; simp [h]
      · rw [hlast i (by omega) (by omega)]; simp [h]
    · have key : ∀ i ∈ Region.ready md (l ++ zs).toArray listed, i < l.length := fun i hi => by
        obtain ⟨h1, o, ho, h2⟩ := mem_ready.1 hi
        have ho' : (l ++ zs)[i]? = some o := by simpa using ho
        have hil : i < (l ++ zs).length := (List.getElem?_eq_some_iff.1 ho').1
        by_cases hc2 : i < l.length
        · exact hc2
        · exfalso
          apply hall
          intro j hj
          simp only [tailB, List.all_eq_true, List.mem_range, Bool.or_eq_true, decide_eq_true_eq] at hW
          rcases hW i hil with h3 | h3
          · exact absurd h3 hc2
          · have h4 := h3 j (by omega)
            rw [ho'] at h4
            simp only [List.contains_eq_mem, decide_eq_true_eq] at h4
            refine clo_of (p := fun j => listed[j]? = some true) hdc _ _ (fun q hq => ?_) j h4
            simp only [waits, List.mem_map, List.mem_filter] at hq
            obtain ⟨e, ⟨he, hb⟩, rfl⟩ := hq
            have h6 := h2 e (by simpa using he) hb
            rw [Array.getD_eq_getD_getElem?] at h6
            cases h7 : listed[e.on]? with
            | none => rw [h7] at h6; cases h6
            | some b => rw [h7] at h6; simp at h6; rw [h6]
      refine ⟨fun hr => ?_, fun i hi => ?_⟩
      · exfalso
        apply hall
        have all : ∀ n i, i < n → i < l.length → listed[i]? = some true := by
          intro n
          induction n with
          | zero => intro i hi; omega
          | succ n ih2 =>
            intro i hi hil
            by_cases hb : listed[i]? = some true
            · exact hb
            · exfalso
              have hlt : i < listed.size := by simp at hn; omega
              have hb' : listed[i]? = some false := by
                rw [Array.getElem?_eq_getElem hlt] at hb ⊢
                cases hx : listed[i] with
                | false => rfl
                | true => rw [hx] at hb; exact absurd rfl hb
              have hil' : i < (l ++ zs).length := by simp; omega
              have : i ∈ Region.ready md (l ++ zs).toArray listed := by
                refine mem_ready.2 ⟨by simp [Array.getD_eq_getD_getElem?, hb'], (l ++ zs)[i], by rw [List.getElem?_toArray, List.getElem?_eq_getElem hil'], fun e he hbd => ?_⟩
                simp only [topoB, List.all_eq_true, List.mem_range] at hT
                have h1 := hT i hil'
                rw [List.getElem?_eq_getElem hil'] at h1
                simp only [List.all_eq_true, decide_eq_true_eq] at h1
                have h2 := h1 e.on (by simp only [waits, List.mem_map, List.mem_filter]; exact ⟨e, ⟨by simpa using he, hbd⟩, rfl⟩)
                have h3 := ih2 e.on (by omega) (by omega)
                simp [Array.getD_eq_getD_getElem?, h3]
              rw [hr] at this
              cases this
        exact fun j hj => all (j + 1) j (by omega) hj
      · have hil := key i hi
        obtain ⟨h1, o, ho, h2⟩ := mem_ready.1 hi
        have ho' : (l ++ zs)[i]? = some o := by simpa using ho
        have hol : l[i]? = some o := by rwa [List.getElem?_append_left hil] at ho'
        have hlt : i < listed.size := by simp at hn; omega
        have h5 : listed[i] = false := by
          simpa [Array.getD_eq_getD_getElem?, Array.getElem?_eq_getElem hlt] using h1
        have hwz : ∀ q ∈ waits md o, listed[q]? = some true := fun q hq => by
          simp only [waits, List.mem_map, List.mem_filter] at hq
          obtain ⟨e, ⟨he, hb⟩, rfl⟩ := hq
          have h6 := h2 e (by simpa using he) hb
          rw [Array.getD_eq_getD_getElem?] at h6
          cases h7 : listed[e.on]? with
          | none => rw [h7] at h6; cases h6
          | some b => rw [h7] at h6; simp at h6; rw [h6]
        have hlow : ∀ q ∈ waits md o, q < l.length := fun q hq => by
          simp only [topoB, List.all_eq_true, List.mem_range] at hT
          have g1 := hT i (by simp; omega)
          rw [ho'] at g1
          simp only [List.all_eq_true, decide_eq_true_eq] at g1
          have := g1 q hq
          omega
        have hst := parStepsS_at hS hol x w' hf (fun e => hbs (by rw [← e, Nat.zero_add, Array.getElem?_eq_getElem hlt, h5]; simp)) (holds_of fun j hj => hv _ (hlow j hj) (hwz j hj))
        refine wpOp_step ho fun K' hK => hst K' fun v w'' hf2 hv2 => ?_
        rw [fill_put hA hol]
        have keepk : ∀ k, listed[k]? = some true → (listed.setIfInBounds i true)[k]? = some true := fun k h => by
          rw [Array.getElem?_setIfInBounds]
          by_cases e : i = k
          · rw [if_pos e, if_pos (e ▸ hlt)]
          · rw [if_neg e]; exact h
        refine hK _ _ (ih _ _ _ (by simpa using hn) (fun j hj hj2 => ?_) (fun j p hp hj k hk => ?_) ?_ (hf.tr hf2.up) (fun j hjl hj => ?_) fun hls => ?_)
        · rw [Array.getElem?_setIfInBounds, if_neg (by omega)]; exact hlast j hj hj2
        · by_cases e : i = j
          · subst e
            rw [ho'] at hp
            cases hp
            exact keepk k (hwz k hk)
          · rw [Array.getElem?_setIfInBounds, if_neg e] at hj
            exact keepk k (hdc j p hp hj k hk)
        · have := count_set listed.toList i (by simpa using hlt) (by simpa using h5)
          simp only [Array.toList_setIfInBounds]
          omega
        · by_cases e : i = j
          · subst e; simp only [upd, if_true]; simpa using hv2
          · rw [Array.getElem?_setIfInBounds, if_neg e] at hj
            simp only [upd, if_neg (Ne.symm e)]
            exact hV j _ _ _ hjl (by rw [Nat.zero_add] at hf2; exact hf2.kl (Ne.symm e)) (hv j hjl hj)
        · by_cases e : i = s
          · exfalso; apply hls; rw [e, Array.getElem?_setIfInBounds, if_pos rfl, if_pos (e ▸ hlt)]
          · rw [Array.getElem?_setIfInBounds, if_neg e] at hls
            rw [Nat.zero_add, rl, if_neg e] at hf2
            exact hB _ _ hf2 (hbs hls)

def parStepsAS (s : Nat) (Bs : World → Prop) (P : Program) (md : Region.Mode) (l : List Oper) (Q : Exit → Act → World → Prop) (L : List Nat) (V : Nat → World → Value → Prop) (t : Array Value) (w : World) : List Oper → Nat → Prop
  | [], _ => True
  | o :: r, i => (∀ (a : Act) (w' : World), Fr L w w' → (i = s → Bs w') → (∀ k, (l.all fun o => o.dst != some k) = true → a.tmps.getD k undef = t.getD k undef) → holdsA V w' a l (waits md o) → ∀ K : Act → World → Prop, Shut (∀ v w'', Fr (rl s L i) w' w'' → V i w'' v → K (a.put o.dst v) w'') →
      if Region.wanted o (yielded l.toArray a.tmps) = true then o.wp P a w' K Q else K (a.put o.dst undef) w') ∧
    parStepsAS s Bs P md l Q L V t w r (i + 1)

def KeepsAt (s : Nat) (L : List Nat) : List (World → Value → Prop) → Nat → Prop
  | [], _ => True
  | p :: r, k => Keeps (kl s L k) p ∧ KeepsAt s L r (k + 1)
theorem KeepsAt.nth {s : Nat} {L : List Nat} : ∀ {l : List (World → Value → Prop)} {k : Nat}, KeepsAt s L l k → ∀ i, Keeps (kl s L (k + i)) (nth l i)
  | [], _, _, _ => fun _ _ _ _ h => h
  | _ :: _, _, h, 0 => h.1
  | _ :: _, k, h, i + 1 => by rw [show k + (i + 1) = k + 1 + i by omega]; exact KeepsAt.nth h.2 i

theorem parStepsS_of {s : Nat} {Bs : World → Prop} {P : Program} {md : Region.Mode} {l zs : List Oper} {Q : Exit → Act → World → Prop} {L : List Nat} {V : Nat → World → Value → Prop} {t : Array Value} {df : List Deferred} {w : World} (hA : apartB l = true) (hT : topoB md (l ++ zs) = true) (hsz : (l.all fun o => match o.dst with | some d => decide (d < t.size) | none => true) = true) :
    ∀ {r : List Oper} {k : Nat}, l.drop k = r → parStepsAS s Bs P md (l ++ zs) Q L V t w r k → parStepsS s Bs P md (l ++ zs) l Q L V t df w r k
  | [], _, _, _ => trivial
  | o :: r, k, hr, h => by
    have hk : l[k]? = some o := by
      have : (l.drop k)[0]? = some o := by rw [hr]; rfl
      simpa using this
    have hkl : k < l.length := (List.getElem?_eq_some_iff.1 hk).1
    refine ⟨fun x w' hf hb hp K hK => h.1 _ w' hf hb (fun j hj => by
      rw [Array.getD_eq_getD_getElem?, Array.getD_eq_getD_getElem?, fill_keep l 0 x t j (fun i o' ho' he => by
        simp only [List.all_eq_true, bne_iff_ne, ne_eq] at hj
        exact hj o' (List.mem_append_left _ (List.mem_of_getElem? ho')) he)]) (holdsA_ofT hA hsz (fun i hi => ?_) hp) K hK, parStepsS_of hA hT hsz (by rw [← List.drop_drop, hr]; rfl) h.2⟩
    simp only [topoB, List.all_eq_true, List.mem_range] at hT
    have g1 := hT k (by simp; omega)
    rw [List.getElem?_append_left hkl, hk] at g1
    simp only [List.all_eq_true, decide_eq_true_eq] at g1
    have := g1 i hi
    omega

/-- **Operations in any order, then a row of operations each of which comes alone.** -/
theorem wp_region_keepsS {P : Program} {id : Nat} {Q : Exit → Act → World → Prop} {t : Array Value} {df : List Deferred} {w : World} {all : List Oper} (s : Nat) (L : List Nat) (Bs : World → Prop) (Vs : List (World → Value → Prop)) (n : Nat) (hn : decide (n ≤ all.length) = true) (hm : P.follows .mixedOrders = true)
    (hA : apartB (all.take n) = true) (hT : topoB .any all = true) (hsz : ((all.take n).all fun o => match o.dst with | some d => decide (d < t.size) | none => true) = true) (hW : tailB .any all n = true) (hV : KeepsAt s L Vs 0) (hB : ∀ w w', Fr [] w w' → Bs w → Bs w') (hB0 : Bs w) (hS : parStepsAS s Bs P .any all Q L (nth Vs) t w (all.take n) 0)
    (hD : ∀ x w', Fr L w w' → holds (nth Vs) w' x (List.range n) → wpList P all.toArray Q (all.drop n) { tmps := fill (all.take n) 0 x t, defers := df } w') :
    (Code.region id all.toArray true).wp P Q { tmps := t, defers := df } w := by
  have e : all = all.take n ++ all.drop n := (List.take_append_drop n all).symm
  have hl : (all.take n).length = n := by simp at hn ⊢; omega
  refine wp_region_any hm ?_
  generalize hlz : all.take n = l at *
  generalize all.drop n = zs at *
  subst e
  subst hl
  have hS' := parStepsS_of (df := df) hA hT hsz (k := 0) (by simp) hS
  have h := wpAny_parS (V := nth Vs) hA hT hW (fun i _ _ _ _ hf h => by have := hV.nth i; rw [Nat.zero_add] at this; exact this _ _ _ hf h) hB hS' hD (l ++ zs).toArray.size (Array.replicate (l ++ zs).toArray.size false) (fun i => ((l[i]?).bind (·.dst)).elim undef fun d => t.getD d undef) { w with drawn := w.drawn + 1 } (by simp) (fun i _ hi => by simp at hi; simp [Array.getElem?_replicate, hi]) (fun j o _ hj => by rw [Array.getElem?_replicate] at hj; split at hj <;> cases hj)
    (by simp) ((Fr.refl L w).drewN 1) (fun i _ hi => by rw [Array.getElem?_replicate] at hi; split at hi <;> cases hi) (fun _ => hB _ _ ((Fr.refl [] w).drewN 1) hB0)
  rw [fill_id] at h
  · exact h
  · intro i o d ho hd
    rw [Nat.zero_add, ho]
    simp [hd]
end Go.Proofs.Ytgmpikaibeenmaa
