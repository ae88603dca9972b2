/- Lemmas: ParT, Arg, Row, ParG, Bts, ScrC, ScrD, ScrE, ScrG, ScrH, ScrI, ScrJ, ParF, MapJ, MapQ, ParH, MapS, ScrF, ScrK, ScrL. No condition. -/
import Derived.Test.YtodlbajpcbdbaaaDoorKScriptLines1
import Derived.ProofKit
import Derived.OpenShut
import Derived.Deep.Slices
import Derived.OwnWalk
import Derived.Lib.AppendIntMem
import Derived.Lib.AtoiErrMem
import Derived.Deep.QuietTactic
import Derived.BigQuiet
import Derived.Maps.RangeWalk
import Derived.WalkMore
namespace Go.Proofs.YtodlbajpcbdbaaaDoor
open Go.RowKit
set_option linter.unusedVariables false
set_option linter.unusedSimpArgs false
set_option maxRecDepth 100000

/-- Behind number n each waits for all that stand before it. -/
def tailB (md : Region.Mode) (l : List Oper) (n : Nat) : Bool := (List.range l.length).all fun k => decide (k < n) || (List.range k).all fun i => (clo md l k (match l[k]? with | some o => waits md o | none => [])).contains i

def firstB (n m : Nat) : Array Bool := (Array.range m).map fun i => decide (i < n)
def isFirst (n : Nat) (listed : Array Bool) : Prop := ∀ i, i < listed.size → listed[i]? = some (decide (i < n))

theorem count_set : ∀ (m : List Bool) (i : Nat) (h : i < m.length), m[i] = false → ((m.set i true).filter (! ·)).length + 1 = (m.filter (! ·)).length := by
  intro m
  induction m with
  | nil => intro i h; simp at h
  | cons b m ih2 =>
    intro i h hb
    cases i with
    | zero => simp at hb; subst hb; simp
    | succ i =>
      have := ih2 i (by simpa using h) (by simpa using hb)
      simp only [List.set_cons_succ, List.filter_cons]
      split <;> simp [this]

theorem ready_first {md : Region.Mode} {all : List Oper} {n k : Nat} {listed : Array Bool} (hT : topoB md all = true) (hW : tailB md all n = true) (hn : n ≤ k) (hs : listed.size = all.length) (hl : isFirst k listed) : ∀ i ∈ Region.ready md all.toArray listed, i = k := by
  intro i hi
  obtain ⟨h1, o, ho, h2⟩ := mem_ready.1 hi
  have ho' : all[i]? = some o := by simpa using ho
  have hil : i < all.length := (List.getElem?_eq_some_iff.1 ho').1
  have hik : ¬ i < k := fun h => by
    have := hl i (by omega)
    rw [Array.getD_eq_getD_getElem?, this] at h1
    simp [h] at h1
  by_cases he : i = k
  · exact he
  · exfalso
    simp only [tailB, List.all_eq_true, List.mem_range, Bool.or_eq_true, decide_eq_true_eq] at hW
    rcases hW i hil with h3 | h3
    · omega
    · have h4 := h3 k (by omega)
      rw [ho'] at h4
      simp only [List.contains_eq_mem, decide_eq_true_eq] at h4
      have hdc : ∀ (j : Nat) (p : Oper), all[j]? = some p → listed[j]? = some true → ∀ q ∈ waits md p, listed[q]? = some true := fun j p hp hj q hq => by
        have hjl : j < all.length := (List.getElem?_eq_some_iff.1 hp).1
        have hjk : j < k := by
          have := hl j (by omega)
          rw [hj] at this
          simpa using this.symm
        simp only [topoB, List.all_eq_true, List.mem_range] at hT
        have h5 := hT j hjl
        rw [hp] at h5
        simp only [List.all_eq_true, decide_eq_true_eq] at h5
        have h6 := h5 q hq
        rw [hl q (by omega)]
        simp; omega
      have hwz : ∀ q ∈ waits md o, listed[q]? = some true := fun q hq => by
        simp only [waits, List.mem_map, List.mem_filter] at hq
        obtain ⟨e, ⟨he, hb⟩, rfl⟩ := hq
        have h6 := h2 e (by simpa using he) hb
        rw [Array.getD_eq_getD_getElem?] at h6
        cases h7 : listed[e.on]? with
        | none => rw [h7] at h6; cases h6
        | some b => rw [h7] at h6; simp at h6; rw [h6]
      have := clo_of (p := fun j => listed[j]? = some true) hdc _ _ hwz k h4
      rw [hl k (by omega)] at this
      simp at this

theorem wpAny_tail {P : Program} {md : Region.Mode} {all : List Oper} {Q : Exit → Act → World → Prop} {n : Nat} (hT : topoB md all = true) (hW : tailB md all n = true) :
    ∀ (zs : List Oper) (k f : Nat) (listed : Array Bool) (a : Act) (w : World), n ≤ k → all.drop k = zs → listed.size = all.length → isFirst k listed → (listed.toList.filter (! ·)).length ≤ f → wpList P all.toArray Q zs a w → wpAny P md all.toArray Q f listed a w := by
  intro zs
  induction zs with
  | nil =>
    intro k f listed a w hn hz hs hl hc h
    have hk : all.length ≤ k := by simpa using hz
    refine wpAny_done ?_ h f
    rw [List.eq_nil_iff_forall_not_mem]
    intro i hi
    have := ready_first hT hW hn hs hl i hi
    obtain ⟨_, o, ho, _⟩ := mem_ready.1 hi
    have : i < all.length := by have := (Array.getElem?_eq_some_iff.1 ho).1; simpa using this
    omega
  | cons z zs ih =>
    intro k f listed a w hn hz hs hl hc h
    have hk : k < all.length := by
      have : (all.drop k).length = zs.length + 1 := by rw [hz]; rfl
      simp at this; omega
    have hzk : all[k]? = some z := by
      have : (all.drop k)[0]? = some z := by rw [hz]; rfl
      simpa using this
    have hz' : all.drop (k + 1) = zs := by rw [← List.drop_drop, hz]; rfl
    have hlk : listed[k]? = some false := by rw [hl k (by omega)]; simp
    have hltk : k < listed.size := by omega
    have hfk : listed[k] = false := by
      have := hlk; rw [Array.getElem?_eq_getElem hltk] at this; simpa using this
    cases f with
    | zero =>
      exfalso
      have : false ∈ listed.toList.filter (! ·) := by
        rw [List.mem_filter]
        refine ⟨?_, rfl⟩
        rw [← hfk]; simp
      rw [List.length_eq_zero_iff.1 (Nat.le_zero.1 hc)] at this
      cases this
    | succ f =>
      have hne : Region.ready md all.toArray listed ≠ [] := fun hr => by
        have : k ∈ Region.ready md all.toArray listed := by
          refine mem_ready.2 ⟨by rw [Array.getD_eq_getD_getElem?, hlk]; rfl, z, by simpa using hzk, fun e he hbd => ?_⟩
          simp only [topoB, List.all_eq_true, List.mem_range] at hT
          have h1 := hT k hk
          rw [hzk] at h1
          simp only [List.all_eq_true, decide_eq_true_eq] at h1
          have h2 := h1 e.on (by simp only [waits, List.mem_map, List.mem_filter]; exact ⟨e, ⟨by simpa using he, hbd⟩, rfl⟩)
          rw [Array.getD_eq_getD_getElem?, hl e.on (by omega)]
          simp [h2]
        rw [hr] at this; cases this
      refine ⟨fun hr => absurd hr hne, fun i hi => ?_⟩
      have := ready_first hT hW hn hs hl i hi
      subst this
      have hstep : ∀ a' w', wpList P all.toArray Q zs a' w' → wpAny P md all.toArray Q f (listed.setIfInBounds i true) a' w' := fun a' w' hh => by
        refine ih (i + 1) f _ a' w' (by omega) hz' (by simp [hs]) (fun j hj => ?_) ?_ hh
        · rw [Array.size_setIfInBounds] at hj
          rw [Array.getElem?_setIfInBounds]
          by_cases e : i = j
          · subst e; rw [if_pos rfl, if_pos hj]; simp
          · rw [if_neg e, hl j hj]
            congr 1
            by_cases h3 : j < i
            · simp [h3]; omega
            · simp [h3]; omega
        · have := count_set listed.toList i (by simpa using hltk) (by simpa using hfk)
          simp only [Array.toList_setIfInBounds]
          omega
      refine wpOp_mono hstep ?_
      unfold wpOp
      rw [show all.toArray[i]? = some z by simpa using hzk]
      exact h

def parStepsT (P : Program) (md : Region.Mode) (all l : List Oper) (Q : Exit → Act → World → Prop) (L : List Nat) (V : Nat → World → Value → Prop) (t : Array Value) (df : List Deferred) (w : World) : List Oper → Nat → Prop
  | [], _ => True
  | o :: r, i => (∀ (x : Nat → Value) (w' : World), Fr L w w' → holds V w' x (waits md o) → ∀ K : Act → World → Prop, Shut (∀ v w'', Fr L w' w'' → V i w'' v → K (({ tmps := fill l 0 x t, defers := df } : Act).put o.dst v) w'') →
      if Region.wanted o (yielded all.toArray ({ tmps := fill l 0 x t, defers := df } : Act).tmps) = true then o.wp P { tmps := fill l 0 x t, defers := df } w' K Q else K (({ tmps := fill l 0 x t, defers := df } : Act).put o.dst undef) w') ∧
    parStepsT P md all l Q L V t df w r (i + 1)

theorem parStepsT_at {P : Program} {md : Region.Mode} {all l : List Oper} {Q : Exit → Act → World → Prop} {L : List Nat} {V : Nat → World → Value → Prop} {t : Array Value} {df : List Deferred} {w : World} :
    ∀ {r : List Oper} {k : Nat}, parStepsT P md all l Q L V t df w r k → ∀ {i : Nat} {o : Oper}, r[i]? = some o →
      ∀ (x : Nat → Value) (w' : World), Fr L w w' → holds V w' x (waits md o) → ∀ K : Act → World → Prop, (∀ v w'', Fr L w' w'' → V (k + i) w'' v → K (({ tmps := fill l 0 x t, defers := df } : Act).put o.dst v) w'') →
      if Region.wanted o (yielded all.toArray ({ tmps := fill l 0 x t, defers := df } : Act).tmps) = true then o.wp P { tmps := fill l 0 x t, defers := df } w' K Q else K (({ tmps := fill l 0 x t, defers := df } : Act).put o.dst undef) w'
  | [], _, _, _, _, h => by simp at h
  | o :: r, k, hh, 0, p, h => by simp at h; subst h; exact hh.1
  | o :: r, k, hh, i + 1, p, h => by
    have := parStepsT_at hh.2 (i := i) (by simpa using h)
    rw [show k + (i + 1) = k + 1 + i by omega]; exact this

theorem wpAny_parT {P : Program} {md : Region.Mode} {l zs : List Oper} {Q : Exit → Act → World → Prop} {L : List Nat} {V : Nat → World → Value → Prop} {t : Array Value} {df : List Deferred} {w : World}
    (hA : apartB l = true) (hT : topoB md (l ++ zs) = true) (hW : tailB md (l ++ zs) l.length = true) (hV : ∀ i w w' v, i < l.length → Fr L w w' → V i w v → V i w' v) (hS : parStepsT P md (l ++ zs) l Q L V t df w l 0)
    (hD : ∀ x w', Fr L w w' → holds V w' x (List.range l.length) → wpList P (l ++ zs).toArray Q zs { tmps := fill l 0 x t, defers := df } w') :
    ∀ (f : Nat) (listed : Array Bool) (x : Nat → Value) (w' : World), listed.size = (l ++ zs).length → (∀ i, l.length ≤ i → i < (l ++ zs).length → listed[i]? = some false) → (∀ (j : Nat) (o : Oper), (l ++ zs)[j]? = some o → listed[j]? = some true → ∀ i ∈ waits md o, listed[i]? = some true) → (listed.toList.filter (! ·)).length ≤ f → Fr L w w' → (∀ i, i < l.length → listed[i]? = some true → V i w' (x i)) →
      wpAny P md (l ++ zs).toArray Q f listed { tmps := fill l 0 x t, defers := df } w' := by
  intro f
  induction f with
  | zero =>
    intro listed x w' hn hlast hdc hc hf hv
    have hfa : ∀ i, i < listed.size → listed[i]? = some true := fun i hi => by
      cases hb : listed[i] with
      | true => rw [Array.getElem?_eq_getElem hi, hb]
      | false =>
        exfalso
        have : false ∈ listed.toList.filter (! ·) := by
          rw [List.mem_filter]
          exact ⟨by rw [← hb]; simp, rfl⟩
        rw [List.length_eq_zero_iff.1 (Nat.le_zero.1 hc)] at this
        cases this
    have hzn : zs = [] := by
      cases zs with
      | nil => rfl
      | cons z zs =>
        exfalso
        have h1 := hlast l.length (Nat.le_refl _) (by simp)
        rw [hfa l.length (by simp at hn; omega)] at h1
        cases h1
    refine wpAny_tail hT hW zs l.length 0 listed _ w' (Nat.le_refl _) (by simp) hn (fun i hi => ?_) hc (hD x w' hf (holds_of fun j hj => hv j (List.mem_range.1 hj) (hfa j (by simp at hn hj; omega))))
    rw [hfa i hi]
    subst hzn
    simp at hn
    simp; omega
  | succ f ih =>
    intro listed x w' hn hlast hdc hc hf hv
    by_cases hall : ∀ j, j < l.length → listed[j]? = some true
    · refine wpAny_tail hT hW zs l.length (f + 1) listed _ w' (Nat.le_refl _) (by simp) hn (fun i hi => ?_) hc (hD x w' hf (holds_of fun j hj => hv j (List.mem_range.1 hj) (hall j (List.mem_range.1 hj))))
      by_cases h : i < l.length
      · rw [hall i h]; simp [h]
      · rw [hlast i (by omega) (by omega)]; simp [h]
    · have key : ∀ i ∈ Region.ready md (l ++ zs).toArray listed, i < l.length := fun i hi => by
        obtain ⟨h1, o, ho, h2⟩ := mem_ready.1 hi
        have ho' : (l ++ zs)[i]? = some o := by simpa using ho
        have hil : i < (l ++ zs).length := (List.getElem?_eq_some_iff.1 ho').1
        by_cases hc2 : i < l.length
        · exact hc2
        · exfalso
          apply hall
          intro j hj
          simp only [tailB, List.all_eq_true, List.mem_range, Bool.or_eq_true, decide_eq_true_eq] at hW
          rcases hW i hil with h3 | h3
          · exact absurd h3 hc2
          · have h4 := h3 j (by omega)
            rw [ho'] at h4
            simp only [List.contains_eq_mem, decide_eq_true_eq] at h4
            refine clo_of (p := fun j => listed[j]? = some true) hdc _ _ (fun q hq => ?_) j h4
            simp only [waits, List.mem_map, List.mem_filter] at hq
            obtain ⟨e, ⟨he, hb⟩, rfl⟩ := hq
            have h6 := h2 e (by simpa using he) hb
            rw [Array.getD_eq_getD_getElem?] at h6
            cases h7 : listed[e.on]? with
            | none => rw [h7] at h6; cases h6
            | some b => rw [h7] at h6; simp at h6; rw [h6]
      refine ⟨fun hr => ?_, fun i hi => ?_⟩
      · exfalso
        apply hall
        have all : ∀ n i, i < n → i < l.length → listed[i]? = some true := by
          intro n
          induction n with
          | zero => intro i hi; omega
          | succ n ih2 =>
            intro i hi hil
            by_cases hb : listed[i]? = some true
            · exact hb
            · exfalso
              have hlt : i < listed.size := by simp at hn; omega
              have hb' : listed[i]? = some false := by
                rw [Array.getElem?_eq_getElem hlt] at hb ⊢
                cases hx : listed[i] with
                | false => rfl
                | true => rw [hx] at hb; exact absurd rfl hb
              have hil' : i < (l ++ zs).length := by simp; omega
              have : i ∈ Region.ready md (l ++ zs).toArray listed := by
                refine mem_ready.2 ⟨by simp [Array.getD_eq_getD_getElem?, hb'], (l ++ zs)[i], by rw [List.getElem?_toArray, List.getElem?_eq_getElem hil'], fun e he hbd => ?_⟩
                simp only [topoB, List.all_eq_true, List.mem_range] at hT
                have h1 := hT i hil'
                rw [List.getElem?_eq_getElem hil'] at h1
                simp only [List.all_eq_true, decide_eq_true_eq] at h1
                have h2 := h1 e.on (by simp only [waits, List.mem_map, List.mem_filter]; exact ⟨e, ⟨by simpa using he, hbd⟩, rfl⟩)
                have h3 := ih2 e.on (by omega) (by omega)
                simp [Array.getD_eq_getD_getElem?, h3]
              rw [hr] at this
              cases this
        exact fun j hj => all (j + 1) j (by omega) hj
      · have hil := key i hi
        obtain ⟨h1, o, ho, h2⟩ := mem_ready.1 hi
        have ho' : (l ++ zs)[i]? = some o := by simpa using ho
        have hol : l[i]? = some o := by rwa [List.getElem?_append_left hil] at ho'
        have hlt : i < listed.size := by simp at hn; omega
        have h5 : listed[i] = false := by
          simpa [Array.getD_eq_getD_getElem?, Array.getElem?_eq_getElem hlt] using h1
        have hwz : ∀ q ∈ waits md o, listed[q]? = some true := fun q hq => by
          simp only [waits, List.mem_map, List.mem_filter] at hq
          obtain ⟨e, ⟨he, hb⟩, rfl⟩ := hq
          have h6 := h2 e (by simpa using he) hb
          rw [Array.getD_eq_getD_getElem?] at h6
          cases h7 : listed[e.on]? with
          | none => rw [h7] at h6; cases h6
          | some b => rw [h7] at h6; simp at h6; rw [h6]
        have hlow : ∀ q ∈ waits md o, q < l.length := fun q hq => by
          simp only [topoB, List.all_eq_true, List.mem_range] at hT
          have g1 := hT i (by simp; omega)
          rw [ho'] at g1
          simp only [List.all_eq_true, decide_eq_true_eq] at g1
          have := g1 q hq
          omega
        have hst := parStepsT_at hS hol x w' hf (holds_of fun j hj => hv _ (hlow j hj) (hwz j hj))
        refine wpOp_step ho fun K' hK => hst K' fun v w'' hf2 hv2 => ?_
        rw [fill_put hA hol]
        have keepk : ∀ k, listed[k]? = some true → (listed.setIfInBounds i true)[k]? = some true := fun k h => by
          rw [Array.getElem?_setIfInBounds]
          by_cases e : i = k
          · rw [if_pos e, if_pos (e ▸ hlt)]
          · rw [if_neg e]; exact h
        refine hK _ _ (ih _ _ _ (by simpa using hn) (fun j hj hj2 => ?_) (fun j p hp hj k hk => ?_) ?_ (hf.tr hf2) fun j hjl hj => ?_)
        · rw [Array.getElem?_setIfInBounds, if_neg (by omega)]; exact hlast j hj hj2
        · by_cases e : i = j
          · subst e
            rw [ho'] at hp
            cases hp
            exact keepk k (hwz k hk)
          · rw [Array.getElem?_setIfInBounds, if_neg e] at hj
            exact keepk k (hdc j p hp hj k hk)
        · have := count_set listed.toList i (by simpa using hlt) (by simpa using h5)
          simp only [Array.toList_setIfInBounds]
          omega
        · by_cases e : i = j
          · subst e; simp only [upd, if_true]; simpa using hv2
          · rw [Array.getElem?_setIfInBounds, if_neg e] at hj
            simp only [upd, if_neg (Ne.symm e)]
            exact hV j _ _ _ hjl hf2 (hv j hjl hj)

theorem holdsA_ofT {V : Nat → World → Value → Prop} {w : World} {x : Nat → Value} {l zs : List Oper} {t : Array Value} {df : List Deferred} (hA : apartB l = true) (hsz : (l.all fun o => match o.dst with | some d => decide (d < t.size) | none => true) = true) :
    ∀ {m : List Nat}, (∀ i ∈ m, i < l.length) → holds V w x m → holdsA V w { tmps := fill l 0 x t, defers := df } (l ++ zs) m
  | [], _, _ => trivial
  | i :: r, hm, h => by
    refine ⟨?_, holdsA_ofT hA hsz (fun j hj => hm j (by simp [hj])) h.2⟩
    have hil := hm i (by simp)
    rw [List.getElem?_append_left hil]
    cases ho : l[i]? with
    | none => trivial
    | some o =>
      cases hd : o.dst with
      | none => simp only [Option.bind_some, hd]
      | some d =>
        simp only [Option.bind_some, hd]
        have hs : d < t.size := by
          simp only [List.all_eq_true] at hsz
          have := hsz o (List.mem_of_getElem? ho)
          rw [hd] at this
          simpa using this
        have := fill_at l 0 x t i o d ho hd (fun i' o' h1 h2 => apart_of hA ho h1 hd h2) hs
        rw [Array.getD_eq_getD_getElem?, this]
        simpa using h.1

theorem parStepsT_of {P : Program} {md : Region.Mode} {l zs : List Oper} {Q : Exit → Act → World → Prop} {L : List Nat} {V : Nat → World → Value → Prop} {t : Array Value} {df : List Deferred} {w : World} (hA : apartB l = true) (hT : topoB md (l ++ zs) = true) (hsz : (l.all fun o => match o.dst with | some d => decide (d < t.size) | none => true) = true) :
    ∀ {r : List Oper} {k : Nat}, l.drop k = r → parStepsA P md (l ++ zs) Q L V t w r k → parStepsT P md (l ++ zs) l Q L V t df w r k
  | [], _, _, _ => trivial
  | o :: r, k, hr, h => by
    have hk : l[k]? = some o := by
      have : (l.drop k)[0]? = some o := by rw [hr]; rfl
      simpa using this
    have hkl : k < l.length := (List.getElem?_eq_some_iff.1 hk).1
    refine ⟨fun x w' hf hp K hK => h.1 _ w' hf (fun j hj => by
      rw [Array.getD_eq_getD_getElem?, Array.getD_eq_getD_getElem?, fill_keep l 0 x t j (fun i o' ho' he => by
        simp only [List.all_eq_true, bne_iff_ne, ne_eq] at hj
        exact hj o' (List.mem_append_left _ (List.mem_of_getElem? ho')) he)]) (holdsA_ofT hA hsz (fun i hi => ?_) hp) K hK, parStepsT_of hA hT hsz (by rw [← List.drop_drop, hr]; rfl) h.2⟩
    simp only [topoB, List.all_eq_true, List.mem_range] at hT
    have g1 := hT k (by simp; omega)
    rw [List.getElem?_append_left hkl, hk] at g1
    simp only [List.all_eq_true, decide_eq_true_eq] at g1
    have := g1 i hi
    omega

/-- **Operations in any order, then a row of operations each of which comes alone.** -/
theorem wp_region_keepsT {P : Program} {id : Nat} {Q : Exit → Act → World → Prop} {t : Array Value} {df : List Deferred} {w : World} {all : List Oper} (L : List Nat) (Vs : List (World → Value → Prop)) (n : Nat) (hn : decide (n ≤ all.length) = true) (hm : P.follows .mixedOrders = true)
    (hA : apartB (all.take n) = true) (hT : topoB .any all = true) (hsz : ((all.take n).all fun o => match o.dst with | some d => decide (d < t.size) | none => true) = true) (hW : tailB .any all n = true) (hV : KeepsAll L Vs) (hS : parStepsA P .any all Q L (nth Vs) t w (all.take n) 0)
    (hD : ∀ x w', Fr L w w' → holds (nth Vs) w' x (List.range n) → wpList P all.toArray Q (all.drop n) { tmps := fill (all.take n) 0 x t, defers := df } w') :
    (Code.region id all.toArray true).wp P Q { tmps := t, defers := df } w := by
  have e : all = all.take n ++ all.drop n := (List.take_append_drop n all).symm
  have hl : (all.take n).length = n := by simp at hn ⊢; omega
  refine wp_region_any hm ?_
  generalize hlz : all.take n = l at *
  generalize all.drop n = zs at *
  subst e
  subst hl
  have hS' := parStepsT_of (df := df) hA hT hsz (k := 0) (by simp) hS
  have h := wpAny_parT (V := nth Vs) hA hT hW (fun i _ _ _ _ hf h => hV.nth i _ _ _ hf h) hS' hD (l ++ zs).toArray.size (Array.replicate (l ++ zs).toArray.size false) (fun i => ((l[i]?).bind (·.dst)).elim undef fun d => t.getD d undef) { w with drawn := w.drawn + 1 } (by simp) (fun i _ hi => by simp at hi; simp [Array.getElem?_replicate, hi]) (fun j o _ hj => by rw [Array.getElem?_replicate] at hj; split at hj <;> cases hj)
    (by simp) ((Fr.refl L w).drewN 1) (fun i _ hi => by rw [Array.getElem?_replicate] at hi; split at hi <;> cases hi)
  rw [fill_id] at h
  · exact h
  · intro i o d ho hd
    rw [Nat.zero_add, ho]
    simp [hd]
end Go.Proofs.YtodlbajpcbdbaaaDoor
namespace Go.Proofs.YtodlbajpcbdbaaaDoor
open Go.RowKit Go.ChangeShapes Go.WideShapes Go.Deep
set_option linter.unusedVariables false
set_option linter.unusedSimpArgs false
set_option maxRecDepth 100000

/-- A slice argument that reads as these whole numbers. -/
def ArgInts (k : IntKind) (w : World) (A : Option Addr) (l : List Int) : Prop :=
  (∀ n ∈ l, (Lit.int k n).wf = true) ∧ (l = [] ∨ ∃ b off, A = some ⟨b, off, none⟩ ∧ ∀ i (h : i < l.length), w.cell? ⟨b, off + i, none⟩ = some (.int k l[i]))

theorem ArgInts.nil (k : IntKind) (w : World) (A : Option Addr) : ArgInts k w A [] := ⟨by simp, .inl rfl⟩

theorem ArgInts.of {k : IntKind} {w : World} {a : Addr} {zs : List Int} (n : Nat) (hn : n ≤ zs.length) (hc : ∀ i, i < zs.length → w.cell? (a.add i) = some (.int k (zs.getD i 0))) (hw : ∀ x ∈ zs, (Lit.int k x).wf = true) :
    ArgInts k w (some a) (zs.take n) := by
  refine ⟨fun x hx => hw x (List.mem_of_mem_take hx), ?_⟩
  by_cases h0 : 0 < zs.length
  · obtain ⟨b, off, rfl, h⟩ := ints_at hc h0
    refine .inr ⟨b, off, rfl, fun i hi => ?_⟩
    have hi' : i < zs.length := by simp at hi; omega
    rw [h i hi']
    simp [List.getElem_take, hi']
  · left
    have : zs = [] := List.length_eq_zero_iff.1 (by omega)
    simp [this]

theorem ArgInts.fr {k : IntKind} {w w' : World} {A : Option Addr} {l : List Int} (h : ArgInts k w A l) (f : Fr [] w w') : ArgInts k w' A l := by
  refine ⟨h.1, ?_⟩
  rcases h.2 with h0 | ⟨b, off, rfl, hc⟩
  · exact .inl h0
  · exact .inr ⟨b, off, rfl, fun i hi => f.cell (hc i hi) (by simp)⟩

theorem ArgInts.open_ {H : Type} {enc : TypeId × Value → H} {P : Program} {w : World} {base : Nat} {spare : Nat → Bool} {held : Bool} {t e : TypeId} {k : IntKind} {A : Option Addr} {len cap : Nat} {d : DataW H} {p : List MemPlace}
    (ht : P.underlying t = some (.slice e)) (he : P.underlying e = some (.int k)) (hc : P.cellsOf e = 1) (h : DataW.Trod enc P w base spare held t (.slice A len cap) d p) :
    ∃ l : List Int, l.length = len ∧ len ≤ 9223372036854775807 ∧ ArgInts k w A l := by
  obtain ⟨fuel, hf⟩ := h
  rcases open_ints ht he hc hf with ⟨hcs, _⟩ | ⟨x, l, c, zs, hcs, _, hl, hm, hz, _, hcell, hwz⟩
  · simp [Value.cells] at hcs
    obtain ⟨rfl, rfl, rfl⟩ := hcs
    exact ⟨[], rfl, by omega, ArgInts.nil _ _ _⟩
  · simp [Value.cells] at hcs
    obtain ⟨rfl, rfl, rfl⟩ := hcs
    unfold maxLen at hm
    have hle : len ≤ zs.length := by rw [hz]; split <;> omega
    exact ⟨zs.take len, by simp; omega, by omega, ArgInts.of len hle hcell hwz⟩

/-- A slice argument of records of whole numbers: field j of record i is g i j. -/
def ArgRec (ks : List IntKind) (w : World) (A : Option Addr) (n : Nat) (g : Nat → Nat → Int) : Prop :=
  n = 0 ∨ ∃ b off, A = some ⟨b, off, none⟩ ∧ ∀ i, i < n → ∀ j (h : j < ks.length), w.cell? ⟨b, off + i * ks.length + j, none⟩ = some (.int ks[j] (g i j)) ∧ (Lit.int ks[j] (g i j)).wf = true

theorem ArgRec.fr {ks : List IntKind} {w w' : World} {A : Option Addr} {n : Nat} {g : Nat → Nat → Int} (h : ArgRec ks w A n g) (f : Fr [] w w') : ArgRec ks w' A n g := by
  rcases h with h0 | ⟨b, off, rfl, hc⟩
  · exact .inl h0
  · exact .inr ⟨b, off, rfl, fun i hi j hj => ⟨f.cell (hc i hi j hj).1 (by simp), (hc i hi j hj).2⟩⟩

theorem ArgRec.open_ {H : Type} {enc : TypeId × Value → H} {P : Program} {w : World} {base : Nat} {spare : Nat → Bool} {held : Bool} {t e : TypeId} {ks : List IntKind} {fs : Array Field} {A : Option Addr} {len cap : Nat} {d : DataW H} {p : List MemPlace}
    (ht : P.underlying t = some (.slice e)) (he : P.underlying e = some (.struct fs)) (hC : P.cellsOf e = ks.length) (hk0 : 0 < ks.length)
    (hfs : ∀ j (hj : j < ks.length), ∃ f, fs[j]? = some f ∧ f.offset = j ∧ P.cellsOf f.type = 1 ∧ P.underlying f.type = some (.int ks[j]))
    (h : DataW.Trod enc P w base spare held t (.slice A len cap) d p) :
    len ≤ 9223372036854775807 ∧ ∃ g, ArgRec ks w A len g := by
  obtain ⟨fuel, hf⟩ := h
  rcases open_slice ht hf with ⟨hcs, _⟩ | ⟨a, l, c, m, n, D, Pl, hcs, hb, hl, hm, hmm, _, hi⟩
  · simp [Value.cells] at hcs
    obtain ⟨rfl, rfl, rfl⟩ := hcs
    exact ⟨by omega, fun _ _ => 0, .inl rfl⟩
  · simp [Value.cells] at hcs
    obtain ⟨rfl, rfl, rfl⟩ := hcs
    unfold maxLen at hm
    refine ⟨by omega, ?_⟩
    have hlm : len ≤ m := by rw [hmm]; split <;> omega
    have key : ∀ i j, ∃ x : Int, i < len → ∀ hj : j < ks.length, w.cell? (a.add (i * ks.length + j)) = some (.int ks[j] x) ∧ (Lit.int ks[j] x).wf = true := by
      intro i j
      by_cases hh : i < len ∧ j < ks.length
      · obtain ⟨hil, hj⟩ := hh
        obtain ⟨cs', hc, ht'⟩ := hi i (by omega)
        rw [hC] at hc
        obtain ⟨xs, n', _, _, hcl, hxl, hfld⟩ := DataW.trod_struct he ht'
        obtain ⟨_, hlen, hat⟩ := World.cells?_some hc
        obtain ⟨f, hfj, ho, hc1, hu⟩ := hfs j hj
        have h1 := hfld j f hfj
        rw [ho, hc1] at h1
        have hone : (cs'.drop j).take 1 = [cs'[j]'(by omega)] := by rw [List.drop_eq_getElem_cons (by omega)]; rfl
        rw [hone] at h1
        have hjx : j < xs.length := by rw [hxl]; exact (Array.getElem?_eq_some_iff.1 hfj).1
        rw [List.getElem?_eq_getElem hjx] at h1
        obtain ⟨x, hx, _, hw⟩ := DataW.trod_int hu h1
        refine ⟨x, fun _ hj' => ⟨?_, hw⟩⟩
        have := hat j hj
        rw [List.getElem?_eq_getElem (by omega)] at this
        rw [← Go.Deep.add_add, this]
        simpa using hx
      · exact ⟨0, fun h1 h2 => absurd ⟨h1, h2⟩ hh⟩
    obtain ⟨g, hg⟩ : ∃ g : Nat → Nat → Int, ∀ i j, i < len → ∀ hj : j < ks.length, w.cell? (a.add (i * ks.length + j)) = some (.int ks[j] (g i j)) ∧ (Lit.int ks[j] (g i j)).wf = true :=
      ⟨fun i j => Classical.choose (key i j), fun i j => Classical.choose_spec (key i j)⟩
    refine ⟨g, ?_⟩
    by_cases h0 : len = 0
    · exact .inl h0
    · right
      obtain ⟨b, off, spot⟩ := a
      have hspot : spot = none := by simpa [Addr.add] using World.cell?_spot (hg 0 0 (by omega) hk0).1
      subst hspot
      refine ⟨b, off, rfl, fun i hi j hj => ?_⟩
      obtain ⟨h1, h2⟩ := hg i j hi hj
      rw [Go.WideShapes.add_plain] at h1
      exact ⟨by rw [← h1, Nat.add_assoc], h2⟩
theorem wf_u8 {x : Int} (h : (Lit.int .u8 x).wf = true) : 0 ≤ x ∧ x ≤ 255 := by
  simp only [Lit.wf, IntKind.min, IntKind.max, IntKind.signed, IntKind.bits, Bool.and_eq_true, decide_eq_true_eq] at h
  simpa using h
theorem wf_u16 {x : Int} (h : (Lit.int .u16 x).wf = true) : 0 ≤ x ∧ x ≤ 65535 := by
  simp only [Lit.wf, IntKind.min, IntKind.max, IntKind.signed, IntKind.bits, Bool.and_eq_true, decide_eq_true_eq] at h
  simpa using h
theorem wf_i16 {x : Int} (h : (Lit.int .i16 x).wf = true) : -32768 ≤ x ∧ x ≤ 32767 := by
  simp only [Lit.wf, IntKind.min, IntKind.max, IntKind.signed, IntKind.bits, Bool.and_eq_true, decide_eq_true_eq, if_true] at h
  omega
theorem wf_i64 {x : Int} (h : (Lit.int .i64 x).wf = true) : -9223372036854775808 ≤ x ∧ x ≤ 9223372036854775807 := by
  simp only [Lit.wf, IntKind.min, IntKind.max, IntKind.signed, IntKind.bits, Bool.and_eq_true, decide_eq_true_eq, if_true] at h
  omega

theorem ArgInts.at_ {k : IntKind} {w : World} {A : Option Addr} {l : List Int} (h : ArgInts k w A l) (i : Nat) (hi : i < l.length) :
    ∃ b off x, A = some ⟨b, off, none⟩ ∧ w.cell? ⟨b, off + i, none⟩ = some (.int k x) ∧ (Lit.int k x).wf = true ∧ x = l[i] := by
  rcases h.2 with h0 | ⟨b, off, rfl, hc⟩
  · subst h0; simp at hi
  · exact ⟨b, off, _, rfl, hc i hi, h.1 _ (List.getElem_mem hi), rfl⟩

theorem ArgRec.at_ {ks : List IntKind} {w : World} {A : Option Addr} {n : Nat} {g : Nat → Nat → Int} (h : ArgRec ks w A n g) (i : Nat) (hi : i < n) :
    ∃ b off, A = some ⟨b, off, none⟩ ∧ ∀ j (h : j < ks.length), w.cell? ⟨b, off + i * ks.length + j, none⟩ = some (.int ks[j] (g i j)) ∧ (Lit.int ks[j] (g i j)).wf = true := by
  rcases h with h0 | ⟨b, off, rfl, hc⟩
  · omega
  · exact ⟨b, off, rfl, hc i hi⟩

/-- A struct argument by value, of whole numbers. -/
theorem agg_open {H : Type} {enc : TypeId × Value → H} {P : Program} {w : World} {base : Nat} {spare : Nat → Bool} {held : Bool} {t : TypeId} {ks : List IntKind} {fs : Array Field} {cs : Array Value} {d : DataW H} {p : List MemPlace}
    (he : P.underlying t = some (.struct fs)) (hC : P.cellsOf t = ks.length)
    (hfs : ∀ j (hj : j < ks.length), ∃ f, fs[j]? = some f ∧ f.offset = j ∧ P.cellsOf f.type = 1 ∧ P.underlying f.type = some (.int ks[j]))
    (h : DataW.Trod enc P w base spare held t (.agg cs) d p) :
    cs.size = ks.length ∧ ∃ g : Nat → Int, ∀ j (hj : j < ks.length), cs[j]? = some (.int ks[j] (g j)) ∧ (Lit.int ks[j] (g j)).wf = true := by
  obtain ⟨fuel, hf⟩ := h
  obtain ⟨xs, n', _, _, hcl, hxl, hfld⟩ := DataW.trod_struct he hf
  have hsz : cs.size = ks.length := by rw [hC] at hcl; simpa [Value.cells] using hcl
  refine ⟨hsz, ?_⟩
  have key : ∀ j, ∃ x : Int, ∀ hj : j < ks.length, cs[j]? = some (.int ks[j] x) ∧ (Lit.int ks[j] x).wf = true := by
    intro j
    by_cases hj : j < ks.length
    · obtain ⟨f, hfj, ho, hc1, hu⟩ := hfs j hj
      have h1 := hfld j f hfj
      rw [ho, hc1] at h1
      have hjc : j < cs.toList.length := by simp; omega
      have hone : ((Value.agg cs).cells.toList.drop j).take 1 = [cs.toList[j]] := by simp only [Value.cells]; rw [List.drop_eq_getElem_cons hjc]; rfl
      rw [hone] at h1
      have hjx : j < xs.length := by rw [hxl]; exact (Array.getElem?_eq_some_iff.1 hfj).1
      rw [List.getElem?_eq_getElem hjx] at h1
      obtain ⟨x, hx, _, hw⟩ := DataW.trod_int hu h1
      refine ⟨x, fun _ => ⟨?_, hw⟩⟩
      rw [Array.getElem?_eq_getElem (by omega)]
      simpa using hx
    · exact ⟨0, fun h => absurd h hj⟩
  exact ⟨fun j => Classical.choose (key j), fun j hj => Classical.choose_spec (key j) hj⟩
end Go.Proofs.YtodlbajpcbdbaaaDoor
namespace Go.Proofs.YtodlbajpcbdbaaaDoor
open Go.RowKit
set_option linter.unusedVariables false
set_option linter.unusedSimpArgs false
set_option maxRecDepth 100000

theorem Fr.grown {L : List Nat} {a w w' : World} {row : Option Nat} (h : Fr L a w) (g : w.grownBy w' row) (hr : ∀ k, row = some k → k ∈ L ∨ a.heap.size ≤ k) : Fr L a w' :=
  ⟨g.os.trans h.os, g.tape.trans h.tape, g.output.trans h.output, Nat.le_trans h.size g.size, fun k hk hn => by
    rw [g.block k (Nat.lt_of_lt_of_le hk h.size) (fun e => by rcases hr k e.symm with h1 | h1; exact hn h1; omega), h.block k hk hn]⟩

/-- A slice, part by part. -/
structure Sl where
  A : Option Addr
  n : Nat
  c : Nat
abbrev Sl.v (s : Sl) : Value := .slice s.A s.n s.c
def Sl.nil : Sl := ⟨none, 0, 0⟩
/-- A slice whose elements are these whole numbers. -/
def Ints (k : IntKind) (w : World) (v : Value) (l : List Int) : Prop := (v = .slice none 0 0 ∧ l = []) ∨ ∃ A cap, v = .slice (some A) l.length cap ∧ ArgInts k w (some A) l
theorem Ints.fr {k : IntKind} {w w' : World} {v : Value} {l : List Int} (h : Ints k w v l) (f : Fr [] w w') : Ints k w' v l := by
  rcases h with h | ⟨A, cap, e, h⟩
  · exact .inl h
  · exact .inr ⟨A, cap, e, h.fr f⟩
theorem Ints.sl {k : IntKind} {w : World} {v : Value} {l : List Int} (h : Ints k w v l) : ∃ s : Sl, v = .slice s.A s.n s.c := by
  rcases h with ⟨rfl, _⟩ | ⟨A, cap, rfl, _⟩
  · exact ⟨⟨_, _, _⟩, rfl⟩
  · exact ⟨⟨_, _, _⟩, rfl⟩
theorem Ints.nil (k : IntKind) (w : World) : Ints k w (.slice none 0 0) [] := .inl ⟨rfl, rfl⟩
theorem Ints.blk {k : IntKind} {w : World} {b : Nat} {l : List Int} {t : TypeId} (h : Blk w b (l.map (Value.int k)).toArray t) (hw : ∀ x ∈ l, (Lit.int k x).wf = true) : Ints k w (.slice (some ⟨b, 0, none⟩) l.length l.length) l :=
  .inr ⟨_, _, rfl, hw, .inr ⟨b, 0, rfl, fun i hi => h.cell _ (by simp [hi])⟩⟩
theorem Ints.own {k : IntKind} {w : World} {B : Nat} {e : TypeId} {v : Value} {l : List Int} (h : w.ownsRow B e 1 v l.length (l.map (Value.int k))) (hw : ∀ x ∈ l, (Lit.int k x).wf = true) : Ints k w v l := by
  have hc := @World.ownsRow.cells _ _ _ _ _ _ _ h
  rcases h.2 with ⟨rfl, h0⟩ | ⟨g, cap, cur, rfl, _⟩
  · rw [List.length_eq_zero_iff.1 h0]; exact Ints.nil _ _
  · refine .inr ⟨_, _, rfl, hw, .inr ⟨g, 0, rfl, fun i hi => ?_⟩⟩
    have := hc (g := g) rfl i (.int k l[i]) (by simp [hi])
    rwa [Go.WideShapes.add_plain] at this
theorem Ints.frL {k : IntKind} {w w' : World} {v : Value} {l : List Int} {L : List Nat} (h : Ints k w v l) (f : Fr L w w') (hn : ∀ A n c, v = .slice (some A) n c → A.block ∉ L) : Ints k w' v l := by
  rcases h with h | ⟨A, cap, rfl, h1, h2⟩
  · exact .inl h
  · refine .inr ⟨A, cap, rfl, h1, ?_⟩
    rcases h2 with h2 | ⟨b, off, e, hc⟩
    · exact .inl h2
    · cases e
      exact .inr ⟨b, off, rfl, fun i hi => f.cell (hc i hi) (hn ⟨b, off, none⟩ _ _ rfl)⟩
/-- A slice that does not lie below block B. -/
def Young (B : Nat) (v : Value) : Prop := ∀ A n c, v = .slice (some A) n c → B ≤ A.block
theorem Young.nil (B : Nat) : Young B (.slice none 0 0) := fun _ _ _ h => by cases h
theorem Young.mono {B B' : Nat} {v : Value} (h : Young B v) (hb : B' ≤ B) : Young B' v := fun A n c e => Nat.le_trans hb (h A n c e)
theorem Young.own {w : World} {B : Nat} {e : TypeId} {size n : Nat} {v : Value} {xs : List Value} (h : w.ownsRow B e size v n xs) : Young B v := by
  rintro A n' c rfl
  exact (h.lt A.block rfl).1
/-- A slice that does not lie in block b. -/
def Apart (b : Nat) (v : Value) : Prop := ∀ A n c, v = .slice (some A) n c → A.block ≠ b
theorem Young.apart {B b : Nat} {v : Value} (h : Young B v) (hb : b < B) : Apart b v := fun A n c e => by have := h A n c e; omega
theorem Apart.nil (b : Nat) : Apart b (.slice none 0 0) := fun _ _ _ h => by cases h
theorem Apart.not {b : Nat} {v : Value} (h : Apart b v) : ∀ A n c, v = .slice (some A) n c → A.block ∉ [b] := fun A n c e => by simpa using h A n c e
theorem ArgInts.news {k : IntKind} {w : World} {A : Addr} {l : List Int} (h : ArgInts k w (some A) l) : ∀ (j : Nat) u, (l.map (Value.int k))[j]? = some u → w.cell? (A.add j) = some u := by
  intro j u hj
  rcases h.2 with rfl | ⟨b, off, e, hc⟩
  · simp at hj
  · cases e
    have hjl : j < l.length := by
      have := (List.getElem?_eq_some_iff.1 hj).1; simpa using this
    have := hc j hjl
    simp [hjl] at hj
    rw [← hj]
    rwa [Go.WideShapes.add_plain]
theorem ints_one {k : IntKind} {l : List Int} : ∀ u ∈ l.map (Value.int k), u.oneCell' = true := by
  intro u hu; simp at hu; obtain ⟨_, _, rfl⟩ := hu; rfl
end Go.Proofs.YtodlbajpcbdbaaaDoor
namespace Go.Proofs.YtodlbajpcbdbaaaDoor
open Go.RowKit
set_option linter.unusedVariables false
set_option linter.unusedSimpArgs false
set_option maxRecDepth 100000

/-- Operation j always comes ahead of operation i. -/
def beforeB (md : Region.Mode) (all : List Oper) (i j : Nat) : Bool := match all[i]? with | some o => (clo md all i (waits md o)).contains j | none => false
/-- Who uses a fact up is the last one that waits for it. -/
def deadB (md : Region.Mode) (all : List Oper) (n : Nat) (dead : Nat → Nat → Bool) : Bool := (List.range n).all fun i => (List.range n).all fun j => !dead i j || (List.range n).all fun k => k == j || beforeB md all j k || (match all[k]? with | some o => !(waits md o).contains i | none => true)
theorem dead_of {md : Region.Mode} {all : List Oper} {n : Nat} {dead : Nat → Nat → Bool} (h : deadB md all n dead = true) {i j k : Nat} {o : Oper} (hi : i < n) (hj : j < n) (hd : dead i j = true) (hk : k < n) (ho : all[k]? = some o) (hw : i ∈ waits md o) : k = j ∨ beforeB md all j k = true := by
  simp only [deadB, List.all_eq_true, List.mem_range, Bool.or_eq_true, Bool.not_eq_true', beq_iff_eq] at h
  rcases h i hi j hj with h1 | h1
  · rw [hd] at h1; cases h1
  · rcases h1 k hk with (h2 | h2) | h2
    · exact .inl h2
    · exact .inr h2
    · rw [ho] at h2
      simp only [List.contains_eq_mem, Bool.not_eq_true', decide_eq_false_iff_not] at h2
      exact absurd hw h2
/-- Every operation that does what is bad comes behind this one. -/
def earlyB (md : Region.Mode) (all : List Oper) (n : Nat) (bad : Nat → Bool) (i : Nat) : Bool := (List.range n).all fun k => !bad k || k == i || beforeB md all k i
def live (n : Nat) (dead : Nat → Nat → Bool) : List Nat := (List.range n).filter fun i => (List.range n).all fun j => !dead i j
def parStepsG (F : World → World → Prop) (St : Nat → World → World → Prop) (ea : Nat → Bool) (Bs : World → Prop) (P : Program) (md : Region.Mode) (all l : List Oper) (Q : Exit → Act → World → Prop) (V : Nat → World → Value → Prop) (t : Array Value) (df : List Deferred) (w : World) : List Oper → Nat → Prop
  | [], _ => True
  | o :: r, i => (∀ (x : Nat → Value) (w' : World), F w w' → (ea i = true → Bs w') → holds V w' x (waits md o) → ∀ K : Act → World → Prop, Shut (∀ v w'', St i w' w'' → V i w'' v → K (({ tmps := fill l 0 x t, defers := df } : Act).put o.dst v) w'') →
      if Region.wanted o (yielded all.toArray ({ tmps := fill l 0 x t, defers := df } : Act).tmps) = true then o.wp P { tmps := fill l 0 x t, defers := df } w' K Q else K (({ tmps := fill l 0 x t, defers := df } : Act).put o.dst undef) w') ∧
    parStepsG F St ea Bs P md all l Q V t df w r (i + 1)

theorem parStepsG_at {F : World → World → Prop} {St : Nat → World → World → Prop} {ea : Nat → Bool} {Bs : World → Prop} {P : Program} {md : Region.Mode} {all l : List Oper} {Q : Exit → Act → World → Prop} {V : Nat → World → Value → Prop} {t : Array Value} {df : List Deferred} {w : World} :
    ∀ {r : List Oper} {k : Nat}, parStepsG F St ea Bs P md all l Q V t df w r k → ∀ {i : Nat} {o : Oper}, r[i]? = some o →
      ∀ (x : Nat → Value) (w' : World), F w w' → (ea (k + i) = true → Bs w') → holds V w' x (waits md o) → ∀ K : Act → World → Prop, (∀ v w'', St (k + i) w' w'' → V (k + i) w'' v → K (({ tmps := fill l 0 x t, defers := df } : Act).put o.dst v) w'') →
      if Region.wanted o (yielded all.toArray ({ tmps := fill l 0 x t, defers := df } : Act).tmps) = true then o.wp P { tmps := fill l 0 x t, defers := df } w' K Q else K (({ tmps := fill l 0 x t, defers := df } : Act).put o.dst undef) w'
  | [], _, _, _, _, h => by simp at h
  | o :: r, k, hh, 0, p, h => by simp at h; subst h; exact hh.1
  | o :: r, k, hh, i + 1, p, h => by
    have := parStepsG_at hh.2 (i := i) (by simpa using h)
    rw [show k + (i + 1) = k + 1 + i by omega]; exact this

theorem wpAny_parG {F : World → World → Prop} {St : Nat → World → World → Prop} {bad : Nat → Bool} {Bs : World → Prop} {dead : Nat → Nat → Bool} {P : Program} {md : Region.Mode} {l zs : List Oper} {Q : Exit → Act → World → Prop} {V : Nat → World → Value → Prop} {t : Array Value} {df : List Deferred} {w : World}
    (hA : apartB l = true) (hT : topoB md (l ++ zs) = true) (hW : tailB md (l ++ zs) l.length = true) (hF : ∀ i w' w'', i < l.length → F w w' → St i w' w'' → F w w'') (hV : ∀ i j w' w'' v, i < l.length → j < l.length → i ≠ j → dead i j = false → beforeB md (l ++ zs) i j = false → (∀ c, c < l.length → dead i c = true → beforeB md (l ++ zs) j c = false) → F w w' → St j w' w'' → V i w' v → V i w'' v) (hDead : deadB md (l ++ zs) l.length dead = true) (hB : ∀ i w' w'', i < l.length → bad i = false → F w w' → St i w' w'' → Bs w' → Bs w'') (hS : parStepsG F St (earlyB md (l ++ zs) l.length bad) Bs P md (l ++ zs) l Q V t df w l 0)
    (hD : ∀ x w', F w w' → holds V w' x (live l.length dead) → wpList P (l ++ zs).toArray Q zs { tmps := fill l 0 x t, defers := df } w') :
    ∀ (f : Nat) (listed : Array Bool) (x : Nat → Value) (w' : World), listed.size = (l ++ zs).length → (∀ i, l.length ≤ i → i < (l ++ zs).length → listed[i]? = some false) → (∀ (j : Nat) (o : Oper), (l ++ zs)[j]? = some o → listed[j]? = some true → ∀ i ∈ waits md o, listed[i]? = some true) → (listed.toList.filter (! ·)).length ≤ f → F w w' → (∀ i, i < l.length → listed[i]? = some true → (∀ j, j < l.length → dead i j = true → listed[j]? ≠ some true) → V i w' (x i)) → ((∀ j, j < l.length → bad j = true → listed[j]? ≠ some true) → Bs w') →
      wpAny P md (l ++ zs).toArray Q f listed { tmps := fill l 0 x t, defers := df } w' := by
  intro f
  induction f with
  | zero =>
    intro listed x w' hn hlast hdc hc hf hv hbs
    have hfa : ∀ i, i < listed.size → listed[i]? = some true := fun i hi => by
      cases hb : listed[i] with
      | true => rw [Array.getElem?_eq_getElem hi, hb]
      | false =>
        exfalso
        have : false ∈ listed.toList.filter (! ·) := by
          rw [List.mem_filter]
          exact ⟨by rw [← hb]; simp, rfl⟩
        rw [List.length_eq_zero_iff.1 (Nat.le_zero.1 hc)] at this
        cases this
    have hzn : zs = [] := by
      cases zs with
      | nil => rfl
      | cons z zs =>
        exfalso
        have h1 := hlast l.length (Nat.le_refl _) (by simp)
        rw [hfa l.length (by simp at hn; omega)] at h1
        cases h1
    refine wpAny_tail hT hW zs l.length 0 listed _ w' (Nat.le_refl _) (by simp) hn (fun i hi => ?_) hc (hD x w' hf (holds_of fun j hj => by
      simp only [live, List.mem_filter, List.mem_range, List.all_eq_true, Bool.not_eq_true'] at hj
      exact hv j hj.1 (hfa j (by simp at hn; omega)) fun k hk hd => by rw [hj.2 k hk] at hd; cases hd))
    rw [hfa i hi]
    subst hzn
    simp at hn
    simp; omega
  | succ f ih =>
    intro listed x w' hn hlast hdc hc hf hv hbs
    by_cases hall : ∀ j, j < l.length → listed[j]? = some true
    · refine wpAny_tail hT hW zs l.length (f + 1) listed _ w' (Nat.le_refl _) (by simp) hn (fun i hi => ?_) hc (hD x w' hf (holds_of fun j hj => by
        simp only [live, List.mem_filter, List.mem_range, List.all_eq_true, Bool.not_eq_true'] at hj
        exact hv j hj.1 (hall j hj.1) fun k hk hd => by rw [hj.2 k hk] at hd; cases hd))
      by_cases h : i < l.length
      · rw [hall i h]; simp [h]
      · rw [hlast i (by omega) (by omega)]; simp [h]
    · have key : ∀ i ∈ Region.ready md (l ++ zs).toArray listed, i < l.length := fun i hi => by
        obtain ⟨h1, o, ho, h2⟩ := mem_ready.1 hi
        have ho' : (l ++ zs)[i]? = some o := by simpa using ho
        have hil : i < (l ++ zs).length := (List.getElem?_eq_some_iff.1 ho').1
        by_cases hc2 : i < l.length
        · exact hc2
        · exfalso
          apply hall
          intro j hj
          simp only [tailB, List.all_eq_true, List.mem_range, Bool.or_eq_true, decide_eq_true_eq] at hW
          rcases hW i hil with h3 | h3
          · exact absurd h3 hc2
          · have h4 := h3 j (by omega)
            rw [ho'] at h4
            simp only [List.contains_eq_mem, decide_eq_true_eq] at h4
            refine clo_of (p := fun j => listed[j]? = some true) hdc _ _ (fun q hq => ?_) j h4
            simp only [waits, List.mem_map, List.mem_filter] at hq
            obtain ⟨e, ⟨he, hb⟩, rfl⟩ := hq
            have h6 := h2 e (by simpa using he) hb
            rw [Array.getD_eq_getD_getElem?] at h6
            cases h7 : listed[e.on]? with
            | none => rw [h7] at h6; cases h6
            | some b => rw [h7] at h6; simp at h6; rw [h6]
      refine ⟨fun hr => ?_, fun i hi => ?_⟩
      · exfalso
        apply hall
        have all : ∀ n i, i < n → i < l.length → listed[i]? = some true := by
          intro n
          induction n with
          | zero => intro i hi; omega
          | succ n ih2 =>
            intro i hi hil
            by_cases hb : listed[i]? = some true
            · exact hb
            · exfalso
              have hlt : i < listed.size := by simp at hn; omega
              have hb' : listed[i]? = some false := by
                rw [Array.getElem?_eq_getElem hlt] at hb ⊢
                cases hx : listed[i] with
                | false => rfl
                | true => rw [hx] at hb; exact absurd rfl hb
              have hil' : i < (l ++ zs).length := by simp; omega
              have : i ∈ Region.ready md (l ++ zs).toArray listed := by
                refine mem_ready.2 ⟨by simp [Array.getD_eq_getD_getElem?, hb'], (l ++ zs)[i], by rw [List.getElem?_toArray, List.getElem?_eq_getElem hil'], fun e he hbd => ?_⟩
                simp only [topoB, List.all_eq_true, List.mem_range] at hT
                have h1 := hT i hil'
                rw [List.getElem?_eq_getElem hil'] at h1
                simp only [List.all_eq_true, decide_eq_true_eq] at h1
                have h2 := h1 e.on (by simp only [waits, List.mem_map, List.mem_filter]; exact ⟨e, ⟨by simpa using he, hbd⟩, rfl⟩)
                have h3 := ih2 e.on (by omega) (by omega)
                simp [Array.getD_eq_getD_getElem?, h3]
              rw [hr] at this
              cases this
        exact fun j hj => all (j + 1) j (by omega) hj
      · have hil := key i hi
        obtain ⟨h1, o, ho, h2⟩ := mem_ready.1 hi
        have ho' : (l ++ zs)[i]? = some o := by simpa using ho
        have hol : l[i]? = some o := by rwa [List.getElem?_append_left hil] at ho'
        have hlt : i < listed.size := by simp at hn; omega
        have h5 : listed[i] = false := by
          simpa [Array.getD_eq_getD_getElem?, Array.getElem?_eq_getElem hlt] using h1
        have hwz : ∀ q ∈ waits md o, listed[q]? = some true := fun q hq => by
          simp only [waits, List.mem_map, List.mem_filter] at hq
          obtain ⟨e, ⟨he, hb⟩, rfl⟩ := hq
          have h6 := h2 e (by simpa using he) hb
          rw [Array.getD_eq_getD_getElem?] at h6
          cases h7 : listed[e.on]? with
          | none => rw [h7] at h6; cases h6
          | some b => rw [h7] at h6; simp at h6; rw [h6]
        have hlow : ∀ q ∈ waits md o, q < l.length := fun q hq => by
          simp only [topoB, List.all_eq_true, List.mem_range] at hT
          have g1 := hT i (by simp; omega)
          rw [ho'] at g1
          simp only [List.all_eq_true, decide_eq_true_eq] at g1
          have := g1 q hq
          omega
        have hst := parStepsG_at hS hol x w' hf (fun he => hbs fun j hj hbj hlj => by
          rw [Nat.zero_add] at he
          simp only [earlyB, List.all_eq_true, List.mem_range, Bool.or_eq_true, Bool.not_eq_true', beq_iff_eq] at he
          rcases he j hj with (h9 | h9) | h9
          · rw [hbj] at h9; cases h9
          · subst h9; rw [Array.getElem?_eq_getElem hlt, h5] at hlj; cases hlj
          · unfold beforeB at h9
            have hjl' : j < (l ++ zs).length := by simp; omega
            rw [List.getElem?_eq_getElem hjl'] at h9
            simp only [List.contains_eq_mem, decide_eq_true_eq] at h9
            have := clo_of (md := md) (l := l ++ zs) (p := fun q => listed[q]? = some true) hdc j _ (hdc j _ (List.getElem?_eq_getElem hjl') hlj) i h9
            rw [Array.getElem?_eq_getElem hlt, h5] at this
            cases this) (holds_of fun j hj => hv _ (hlow j hj) (hwz j hj) fun k hk hd => by
          rcases dead_of hDead (hlow j hj) hk hd hil ho' hj with this | h9
          · subst this
            rw [Array.getElem?_eq_getElem hlt, h5]; simp
          · intro hlj
            unfold beforeB at h9
            have hjl' : k < (l ++ zs).length := by simp; omega
            rw [List.getElem?_eq_getElem hjl'] at h9
            simp only [List.contains_eq_mem, decide_eq_true_eq] at h9
            have := clo_of (md := md) (l := l ++ zs) (p := fun q => listed[q]? = some true) hdc k _ (hdc k _ (List.getElem?_eq_getElem hjl') hlj) i h9
            rw [Array.getElem?_eq_getElem hlt, h5] at this
            cases this)
        refine wpOp_step ho fun K' hK => hst K' fun v w'' hf2 hv2 => ?_
        rw [fill_put hA hol]
        have keepk : ∀ k, listed[k]? = some true → (listed.setIfInBounds i true)[k]? = some true := fun k h => by
          rw [Array.getElem?_setIfInBounds]
          by_cases e : i = k
          · rw [if_pos e, if_pos (e ▸ hlt)]
          · rw [if_neg e]; exact h
        refine hK _ _ (ih _ _ _ (by simpa using hn) (fun j hj hj2 => ?_) (fun j p hp hj k hk => ?_) ?_ (hF i _ _ hil hf (by rw [Nat.zero_add] at hf2; exact hf2)) (fun j hjl hj hjd => ?_) (fun hnb => ?_))
        · rw [Array.getElem?_setIfInBounds, if_neg (by omega)]; exact hlast j hj hj2
        · by_cases e : i = j
          · subst e
            rw [ho'] at hp
            cases hp
            exact keepk k (hwz k hk)
          · rw [Array.getElem?_setIfInBounds, if_neg e] at hj
            exact keepk k (hdc j p hp hj k hk)
        · have := count_set listed.toList i (by simpa using hlt) (by simpa using h5)
          simp only [Array.toList_setIfInBounds]
          omega
        · by_cases e : i = j
          · subst e; simp only [upd, if_true]; simpa using hv2
          · rw [Array.getElem?_setIfInBounds, if_neg e] at hj
            simp only [upd, if_neg (Ne.symm e)]
            have hdf : dead j i = false := by
              cases hd : dead j i with
              | false => rfl
              | true => exact absurd (by rw [Array.getElem?_setIfInBounds, if_pos rfl, if_pos hlt]) (hjd i hil hd)
            have hbf : beforeB md (l ++ zs) j i = false := by
              cases hd : beforeB md (l ++ zs) j i with
              | false => rfl
              | true =>
                exfalso
                unfold beforeB at hd
                have hjl' : j < (l ++ zs).length := by simp; omega
                rw [List.getElem?_eq_getElem hjl'] at hd
                simp only [List.contains_eq_mem, decide_eq_true_eq] at hd
                have := clo_of (md := md) (l := l ++ zs) (p := fun q => listed[q]? = some true) hdc j _ (hdc j _ (List.getElem?_eq_getElem hjl') hj) i hd
                rw [Array.getElem?_eq_getElem hlt, h5] at this
                cases this
            have hnc : ∀ c, c < l.length → dead j c = true → beforeB md (l ++ zs) i c = false := by
              intro c hc hdc2
              cases hd : beforeB md (l ++ zs) i c with
              | false => rfl
              | true =>
                exfalso
                unfold beforeB at hd
                rw [ho'] at hd
                simp only [List.contains_eq_mem, decide_eq_true_eq] at hd
                exact hjd c hc hdc2 (keepk c (clo_of (md := md) (l := l ++ zs) (p := fun q => listed[q]? = some true) hdc i _ hwz c hd))
            refine hV j i _ _ _ hjl hil (Ne.symm e) hdf hbf hnc hf (by rw [Nat.zero_add] at hf2; exact hf2) (hv j hjl hj fun k hk hd hk2 => hjd k hk hd (keepk k hk2))
        · have hbi : bad i = false := by
            cases hb : bad i with
            | false => rfl
            | true => exact absurd (by rw [Array.getElem?_setIfInBounds, if_pos rfl, if_pos hlt]) (hnb i hil hb)
          exact hB i _ _ hil hbi hf (by rw [Nat.zero_add] at hf2; exact hf2) (hbs fun j hj hbj hlj => hnb j hj hbj (keepk j hlj))

def parStepsAG (F : World → World → Prop) (St : Nat → World → World → Prop) (ea : Nat → Bool) (Bs : World → Prop) (P : Program) (md : Region.Mode) (l : List Oper) (Q : Exit → Act → World → Prop) (V : Nat → World → Value → Prop) (t : Array Value) (w : World) : List Oper → Nat → Prop
  | [], _ => True
  | o :: r, i => (∀ (a : Act) (w' : World), F w w' → (ea i = true → Bs w') → (∀ k, (l.all fun o => o.dst != some k) = true → a.tmps.getD k undef = t.getD k undef) → holdsA V w' a l (waits md o) → ∀ K : Act → World → Prop, Shut (∀ v w'', St i w' w'' → V i w'' v → K (a.put o.dst v) w'') →
      if Region.wanted o (yielded l.toArray a.tmps) = true then o.wp P a w' K Q else K (a.put o.dst undef) w') ∧
    parStepsAG F St ea Bs P md l Q V t w r (i + 1)

theorem parStepsG_of {F : World → World → Prop} {St : Nat → World → World → Prop} {ea : Nat → Bool} {Bs : World → Prop} {P : Program} {md : Region.Mode} {l zs : List Oper} {Q : Exit → Act → World → Prop} {V : Nat → World → Value → Prop} {t : Array Value} {df : List Deferred} {w : World} (hA : apartB l = true) (hT : topoB md (l ++ zs) = true) (hsz : (l.all fun o => match o.dst with | some d => decide (d < t.size) | none => true) = true) :
    ∀ {r : List Oper} {k : Nat}, l.drop k = r → parStepsAG F St ea Bs P md (l ++ zs) Q V t w r k → parStepsG F St ea Bs P md (l ++ zs) l Q V t df w r k
  | [], _, _, _ => trivial
  | o :: r, k, hr, h => by
    have hk : l[k]? = some o := by
      have : (l.drop k)[0]? = some o := by rw [hr]; rfl
      simpa using this
    have hkl : k < l.length := (List.getElem?_eq_some_iff.1 hk).1
    refine ⟨fun x w' hf hb hp K hK => h.1 _ w' hf hb (fun j hj => by
      rw [Array.getD_eq_getD_getElem?, Array.getD_eq_getD_getElem?, fill_keep l 0 x t j (fun i o' ho' he => by
        simp only [List.all_eq_true, bne_iff_ne, ne_eq] at hj
        exact hj o' (List.mem_append_left _ (List.mem_of_getElem? ho')) he)]) (holdsA_ofT hA hsz (fun i hi => ?_) hp) K hK, parStepsG_of hA hT hsz (by rw [← List.drop_drop, hr]; rfl) h.2⟩
    simp only [topoB, List.all_eq_true, List.mem_range] at hT
    have g1 := hT k (by simp; omega)
    rw [List.getElem?_append_left hkl, hk] at g1
    simp only [List.all_eq_true, decide_eq_true_eq] at g1
    have := g1 i hi
    omega

/-- **Operations in any order, each of which tells what it may do, then a row of operations each of which comes alone.** -/
theorem wp_region_keepsG {P : Program} {id : Nat} {Q : Exit → Act → World → Prop} {t : Array Value} {df : List Deferred} {w : World} {all : List Oper} (F : World → World → Prop) (St : Nat → World → World → Prop) (bad : Nat → Bool) (Bs : World → Prop) (dead : Nat → Nat → Bool) (V : Nat → World → Value → Prop) (n : Nat) (hn : decide (n ≤ all.length) = true) (hm : P.follows .mixedOrders = true)
    (hA : apartB (all.take n) = true) (hT : topoB .any all = true) (hsz : ((all.take n).all fun o => match o.dst with | some d => decide (d < t.size) | none => true) = true) (hW : tailB .any all n = true)
    (hF0 : F w { w with drawn := w.drawn + 1 }) (hF : ∀ i w' w'', i < n → F w w' → St i w' w'' → F w w'') (hV : ∀ i j w' w'' v, i < n → j < n → i ≠ j → dead i j = false → beforeB .any all i j = false → (∀ c, c < n → dead i c = true → beforeB .any all j c = false) → F w w' → St j w' w'' → V i w' v → V i w'' v) (hDead : deadB .any all n dead = true) (hB : ∀ i w' w'', i < n → bad i = false → F w w' → St i w' w'' → Bs w' → Bs w'') (hB0 : Bs { w with drawn := w.drawn + 1 }) (hS : parStepsAG F St (earlyB .any all n bad) Bs P .any all Q V t w (all.take n) 0)
    (hD : ∀ x w', F w w' → holds V w' x (live n dead) → wpList P all.toArray Q (all.drop n) { tmps := fill (all.take n) 0 x t, defers := df } w') :
    (Code.region id all.toArray true).wp P Q { tmps := t, defers := df } w := by
  have e : all = all.take n ++ all.drop n := (List.take_append_drop n all).symm
  have hl : (all.take n).length = n := by simp at hn ⊢; omega
  refine wp_region_any hm ?_
  generalize hlz : all.take n = l at *
  generalize all.drop n = zs at *
  subst e
  subst hl
  have hS' := parStepsG_of (df := df) hA hT hsz (k := 0) (by simp) hS
  have h := wpAny_parG (V := V) hA hT hW hF hV hDead hB hS' hD (l ++ zs).toArray.size (Array.replicate (l ++ zs).toArray.size false) (fun i => ((l[i]?).bind (·.dst)).elim undef fun d => t.getD d undef) { w with drawn := w.drawn + 1 } (by simp) (fun i _ hi => by simp at hi; simp [Array.getElem?_replicate, hi]) (fun j o _ hj => by rw [Array.getElem?_replicate] at hj; split at hj <;> cases hj)
    (by simp) hF0 (fun i _ hi => by rw [Array.getElem?_replicate] at hi; split at hi <;> cases hi) (fun _ => hB0)
  rw [fill_id] at h
  · exact h
  · intro i o d ho hd
    rw [Nat.zero_add, ho]
    simp [hd]

/-- What a step may do: lay new memory; or (a step that changes something) change what is of L, or lies from N on. -/
def stC (N : Nat) (L : List Nat) : Bool → World → World → Prop
  | true => fun w w' => ∃ M, Fr M w w' ∧ ∀ x ∈ M, x ∈ L ∨ N ≤ x
  | false => fun w w' => Fr [] w w'
/-- A fact that outlives every such step. -/
def KeepsN (N : Nat) (L : List Nat) (p : World → Value → Prop) : Prop := ∀ M w w' v, (∀ x ∈ M, x ∈ L ∨ N ≤ x) → Fr M w w' → p w v → p w' v
theorem Is.keepsN {N : Nat} {L : List Nat} (v0 : Value) : KeepsN N L (Is v0) := fun _ _ _ _ _ _ h => h
theorem Any.keepsN {N : Nat} {L : List Nat} : KeepsN N L Any := fun _ _ _ _ _ _ h => h
def KeepsC (N : Nat) (L : List Nat) : List (Option Nat) → List (World → Value → Prop) → Prop
  | _, [] => True
  | none :: fr, p :: r => KeepsN N L p ∧ KeepsC N L fr r
  | some _ :: fr, p :: r => Keeps [] p ∧ KeepsC N L fr r
  | [], p :: r => KeepsN N L p ∧ KeepsC N L [] r
theorem KeepsC.nth {N : Nat} {L : List Nat} : ∀ {fr : List (Option Nat)} {l : List (World → Value → Prop)}, KeepsC N L fr l → ∀ i, if fr.getD i none = none then KeepsN N L (nth l i) else Keeps [] (nth l i)
  | [], [], _ => fun i => by simp [Go.Proofs.YtodlbajpcbdbaaaDoor.nth]; exact fun _ _ _ _ _ _ h => h
  | a :: fr, [], _ => fun i => by
    split
    · exact fun _ _ _ _ _ _ h => h
    · exact fun _ _ _ _ h => h
  | none :: _, _ :: _, h => fun i => by
    cases i with
    | zero => simp; exact h.1
    | succ i => simpa [Go.Proofs.YtodlbajpcbdbaaaDoor.nth] using KeepsC.nth h.2 i
  | some _ :: _, _ :: _, h => fun i => by
    cases i with
    | zero => simp; exact h.1
    | succ i => simpa [Go.Proofs.YtodlbajpcbdbaaaDoor.nth] using KeepsC.nth h.2 i
  | [], _ :: r, h => fun i => by
    cases i with
    | zero => simp; exact h.1
    | succ i => have := KeepsC.nth (fr := []) h.2 i; simpa [Go.Proofs.YtodlbajpcbdbaaaDoor.nth] using this
/-- A fact that a changing step may harm: that step uses it up, or is its own, or comes ahead. -/
def fragB (all : List Oper) (n : Nat) (mt : List Bool) (frag : List (Option Nat)) : Bool :=
  (List.range n).all fun i => match frag.getD i none with
    | none => true
    | some c => (List.range n).all fun k => !(mt.getD k false) || k == i || k == c || beforeB .any all i k || (decide (c < n) && beforeB .any all k c)
def deadC (frag : List (Option Nat)) (i j : Nat) : Bool := frag.getD i none == some j
theorem wp_region_keepsC {P : Program} {id : Nat} {Q : Exit → Act → World → Prop} {t : Array Value} {df : List Deferred} {w : World} {all : List Oper} (L : List Nat) (mt : List Bool) (frag : List (Option Nat)) (Bs : World → Prop) (Vs : List (World → Value → Prop)) (n : Nat) (hn : decide (n ≤ all.length) = true) (hm : P.follows .mixedOrders = true)
    (hA : apartB (all.take n) = true) (hT : topoB .any all = true) (hsz : ((all.take n).all fun o => match o.dst with | some d => decide (d < t.size) | none => true) = true) (hW : tailB .any all n = true)
    (hfr : fragB all n mt frag = true) (hDead : deadB .any all n (deadC frag) = true) (hV : KeepsC w.heap.size L frag Vs) (hB : ∀ w w', Fr [] w w' → Bs w → Bs w') (hB0 : Bs w)
    (hS : parStepsAG (Fr L) (fun i => stC w.heap.size L (mt.getD i false)) (earlyB .any all n fun k => mt.getD k false) Bs P .any all Q (Go.Proofs.YtodlbajpcbdbaaaDoor.nth Vs) t w (all.take n) 0)
    (hD : ∀ x w', Fr L w w' → holds (Go.Proofs.YtodlbajpcbdbaaaDoor.nth Vs) w' x (live n (deadC frag)) → wpList P all.toArray Q (all.drop n) { tmps := fill (all.take n) 0 x t, defers := df } w') :
    (Code.region id all.toArray true).wp P Q { tmps := t, defers := df } w := by
  refine wp_region_keepsG (Fr L) (fun i => stC w.heap.size L (mt.getD i false)) (fun k => mt.getD k false) Bs (deadC frag) (Go.Proofs.YtodlbajpcbdbaaaDoor.nth Vs) n hn hm hA hT hsz hW ((Fr.refl L w).drewN 1) ?_ ?_ hDead (fun i w' w'' _ hb _ hs h => by rw [hb] at hs; exact hB _ _ hs h) (hB _ _ ((Fr.refl [] w).drewN 1) hB0) hS hD
  · intro i w' w'' hi hf hs
    cases hmu : mt.getD i false with
    | false => rw [hmu] at hs; exact hf.trans hs (fun _ hx => by cases hx)
    | true => rw [hmu] at hs; obtain ⟨M, h1, h2⟩ := hs; exact hf.trans h1 h2
  · intro i j w' w'' v hi hj hij hd hb hnc hf hs hv
    have hk := hV.nth i
    cases hfi : frag.getD i none with
    | none =>
      rw [hfi, if_pos rfl] at hk
      cases hmu : mt.getD j false with
      | false => rw [hmu] at hs; exact hk [] _ _ _ (fun _ hx => by cases hx) hs hv
      | true => rw [hmu] at hs; obtain ⟨M, h1, h2⟩ := hs; exact hk M _ _ _ h2 h1 hv
    | some c =>
      rw [hfi, if_neg (by simp)] at hk
      cases hmu : mt.getD j false with
      | false => rw [hmu] at hs; exact hk _ _ _ hs hv
      | true =>
        exfalso
        simp only [fragB, List.all_eq_true, List.mem_range] at hfr
        have h1 := hfr i hi
        rw [hfi] at h1
        simp only [List.all_eq_true, List.mem_range, Bool.or_eq_true, Bool.not_eq_true', beq_iff_eq, Bool.and_eq_true, decide_eq_true_eq] at h1
        have h2 := h1 j hj
        rw [hmu, hb] at h2
        simp only [deadC, hfi] at hd
        rcases h2 with (((h2 | h2) | h2) | h2) | h2
        · cases h2
        · exact hij h2.symm
        · subst h2; simp at hd
        · cases h2
        · rw [hnc c h2.1 (by unfold deadC; rw [hfi]; simp)] at h2
          cases h2.2

def Sl.blk (s : Sl) : List Nat := match s.A with | some a => [a.block] | none => []
theorem getD_bool (o : Option Value) (b : Bool) : (o.getD undef = Value.bool b) ↔ o = some (.bool b) := by
  cases o with
  | none => simp [undef]
  | some v => simp
/-- It is this value, and this holds of memory. -/
def IsW (x : Value) (B : World → Prop) : World → Value → Prop := fun w v => v = x ∧ B w
theorem IsW.keeps {x : Value} {B : World → Prop} (h : ∀ w w', Fr [] w w' → B w → B w') : Keeps [] (IsW x B) := fun _ _ _ f ⟨e, hb⟩ => ⟨e, h _ _ f hb⟩
theorem eval_tmp (a : Act) (k : Nat) : a.eval (.tmp k) = a.tmps[k]?.getD undef := by
  show a.tmps.getD k undef = _
  rw [Array.getD_eq_getD_getElem?]
theorem stC_grown {N : Nat} {L : List Nat} {w w' : World} {row : Option Nat} (g : w.grownBy w' row) (h : ∀ k, row = some k → k ∈ L ∨ N ≤ k) : stC N L true w w' := by
  cases row with
  | none => exact ⟨[], (Fr.refl _ _).grown g (fun _ hk => by cases hk), fun _ hx => by cases hx⟩
  | some k => exact ⟨[k], (Fr.refl _ _).grown g (fun j hj => .inl (by cases hj; simp)), fun x hx => by simp at hx; subst hx; exact h _ rfl⟩
/-- A slice of these cells, in a block that lay before. -/
def Rowed (N m : Nat) (xs : List Value) : World → Value → Prop := fun w v => ∃ ad c, v = .slice (some ad) m c ∧ ad.block < N ∧ ∀ j u, xs[j]? = some u → w.cell? (ad.add j) = some u
theorem add_block (ad : Addr) (j : Nat) : (ad.add j).block = ad.block := by
  unfold Addr.add; split <;> rfl
theorem Rowed.keepsN {N m : Nat} {xs : List Value} : KeepsN N [] (Rowed N m xs) := fun M w w' v hM f ⟨ad, c, e, hb, h⟩ =>
  ⟨ad, c, e, hb, fun j u hj => f.cell (h j u hj) fun hm => by
    rw [add_block] at hm
    rcases hM _ hm with h1 | h1
    · cases h1
    · omega⟩
theorem Rowed.fr {N m : Nat} {xs : List Value} {w w' : World} {v : Value} (h : Rowed N m xs w v) (f : Fr [] w w') : Rowed N m xs w' v := by
  obtain ⟨ad, c, e, hb, h⟩ := h
  exact ⟨ad, c, e, hb, fun j u hj => f.cell (h j u hj) (by simp)⟩
/-- A row of its own, that lies from N on. -/
def Own (N : Nat) (e : TypeId) (z n : Nat) (xs : List Value) : World → Value → Prop := fun w v => w.ownsRow N e z v n xs
theorem Own.keeps {N : Nat} {e : TypeId} {z n : Nat} {xs : List Value} : Keeps [] (Own N e z n xs) := fun w w' v f h => by
  refine ⟨h.1, h.2.imp id ?_⟩
  rintro ⟨g, cap, cur, e, hg, hb', r⟩
  exact ⟨g, cap, cur, e, hg, f.keeps hb' (by simp), r⟩
theorem Own.new {N : Nat} {w : World} (e : TypeId) (z : Nat) (h : N ≤ w.heap.size) : Own N e z 0 [] (w.alloc (.cells #[] e)) (.slice (some ⟨w.heap.size, 0, none⟩) 0 0) :=
  ⟨by simp, .inr ⟨w.heap.size, 0, #[], rfl, h, Blk.new w #[] e, Nat.le_refl _, by unfold maxLen; omega, by simp, by simp⟩⟩

theorem run_append_none {P : Program} (w : World) (t ty e : TypeId) (i : TypeInfo) (ht : P.underlying t = some (.slice e)) (hi : P.info? e = some i) (A : Option Addr) (n cap : Nat) (hn : n ≤ cap) :
    (Builtin.append_ #[t, t] ty #[.slice A n cap, .slice none 0 0]).run P w = .ok (.slice A n cap) w := by
  cases A with
  | none => simp [Builtin.append_, run_underlying ht, sizeOf, typeInfo, hi, Builtin.lenOf, Builtin.firstCells, loadCells, loadCellsFrom, hn]
  | some a => simp [Builtin.append_, run_underlying ht, sizeOf, typeInfo, hi, Builtin.lenOf, Builtin.firstCells, loadCells, loadCellsFrom, hn, storeCells]
/-- What a slice holds, nil let in. -/
def Src (m : Nat) (news : List Value) : World → Value → Prop := fun w v => (v = .slice none 0 0 ∧ m = 0 ∧ news = []) ∨ ∃ ad c, v = .slice (some ad) m c ∧ ∀ j u, news[j]? = some u → w.cell? (ad.add j) = some u
theorem Src.fr {m : Nat} {news : List Value} {w w' : World} {v : Value} {L : List Nat} (h : Src m news w v) (f : Fr L w w') (hn : ∀ A n c, v = .slice (some A) n c → A.block ∉ L) : Src m news w' v := by
  rcases h with h | ⟨ad, c, e, h⟩
  · exact .inl h
  · exact .inr ⟨ad, c, e, fun j u hj => f.cell (h j u hj) (by rw [add_block]; exact hn _ _ _ e)⟩
theorem Src.keeps {m : Nat} {news : List Value} : Keeps [] (Src m news) := fun w w' v f h => h.fr f (fun _ _ _ _ => by simp)
theorem Src.ints {k : IntKind} {w : World} {v : Value} {l : List Int} (h : Ints k w v l) : Src l.length (l.map (Value.int k)) w v := by
  rcases h with ⟨rfl, rfl⟩ | ⟨A, cap, rfl, hA⟩
  · exact .inl ⟨rfl, rfl, rfl⟩
  · exact .inr ⟨A, cap, rfl, hA.news⟩
theorem own_cap {w : World} {B : Nat} {e : TypeId} {z n : Nat} {v : Value} {xs : List Value} (h : w.ownsRow B e z v n xs) : ∃ A c, v = .slice A n c ∧ n ≤ c := by
  rcases h.2 with ⟨rfl, rfl⟩ | ⟨g, cap, cur, rfl, _, _, hc, _⟩
  · exact ⟨_, _, rfl, Nat.le_refl _⟩
  · exact ⟨_, _, rfl, hc⟩
theorem World.grownBy_refl (w : World) (row : Option Nat) : w.grownBy w row := ⟨rfl, rfl, rfl, Nat.le_refl _, fun _ _ _ => rfl⟩
theorem wp_append_src {P : Program} {w : World} {o : Oper} {a : Act} {K : Act → World → Prop} {Q : Exit → Act → World → Prop} (s x : Operand) (t : TypeId)
    (ho : o.op = .call { callee := .builtin .append, args := #[s, x], argTypes := #[t, t] })
    (base : Nat) (e : TypeId) (i : TypeInfo) (z : Value) (size bytes : Nat) (ht : P.underlying t = some (.slice e)) (hi : P.info? e = some i) (hz : i.zero = some z)
    (hsize : i.size = size) (hby : i.bytes = bytes) (hzs : z.cells.size = size) (hsz : 0 < size)
    (v : Value) (n : Nat) (xs : List Value) (hs : a.eval s = v) (hown : w.ownsRow base e size v n xs)
    (y : Value) (m : Nat) (news : List Value) (hx : a.eval x = y) (hsrc : Src m news w y) (hl : news.length = m * size) (h1 : ∀ u ∈ news, u.oneCell' = true)
    (h63 : n + m ≤ maxLen) (hbytes : (n + m) * bytes ≤ 140737488355328) (hbase : base ≤ w.heap.size)
    (h : ∀ v' w', w'.ownsRow base e size v' (n + m) (xs ++ news) → w.grownBy w' v.ownBlock → K (a.put o.dst v') w') : o.wp P a w K Q := by
  rcases hsrc with ⟨rfl, rfl, rfl⟩ | ⟨ad, c, rfl, hnews⟩
  · obtain ⟨A, cap, rfl, hc⟩ := own_cap hown
    have hr := run_append_none (P := P) w t o.type e i ht hi A n cap hc
    unfold Oper.wp execOp
    simp only [ho, resolve, invoke, builtin, Sem.run_bind, Sem.run_pure, Result.andThen_ok, List.map_toArray, List.map_cons, List.map_nil, hs, hx, hr]
    exact h _ _ (by simpa using hown) (World.grownBy_refl _ _)
  · exact wp_append_own w s x t ho base e i z size bytes ht hi hz hsize hby hzs hsz v n xs hs hown ad m c news hx hl hnews h1 h63 hbytes hbase fun v' w' h2 h3 _ => h v' w' h2 h3
theorem wpList_append_src {P : Program} {w : World} {ops : Array Oper} {rest : List Oper} {o : Oper} {a : Act} {Q : Exit → Act → World → Prop} (hgd : o.guard = none) (s x : Operand) (t : TypeId)
    (ho : o.op = .call { callee := .builtin .append, args := #[s, x], argTypes := #[t, t] })
    (base : Nat) (e : TypeId) (i : TypeInfo) (z : Value) (size bytes : Nat) (ht : P.underlying t = some (.slice e)) (hi : P.info? e = some i) (hz : i.zero = some z)
    (hsize : i.size = size) (hby : i.bytes = bytes) (hzs : z.cells.size = size) (hsz : 0 < size)
    (v : Value) (n : Nat) (xs : List Value) (hs : a.eval s = v) (hown : w.ownsRow base e size v n xs)
    (y : Value) (m : Nat) (news : List Value) (hx : a.eval x = y) (hsrc : Src m news w y) (hl : news.length = m * size) (h1 : ∀ u ∈ news, u.oneCell' = true)
    (h63 : n + m ≤ maxLen) (hbytes : (n + m) * bytes ≤ 140737488355328) (hbase : base ≤ w.heap.size)
    (h : ∀ v' w', w'.ownsRow base e size v' (n + m) (xs ++ news) → w.grownBy w' v.ownBlock → wpList P ops Q rest (a.put o.dst v') w') : wpList P ops Q (o :: rest) a w :=
  wpList_plain hgd fun _ hK => wp_append_src s x t ho base e i z size bytes ht hi hz hsize hby hzs hsz v n xs hs hown y m news hx hsrc hl h1 h63 hbytes hbase fun v' w' h2 h3 => hK _ _ (h v' w' h2 h3)

/-- An empty slice of its own, without room. -/
def Bare (N : Nat) (e : TypeId) (z : Nat) : World → Value → Prop := fun w v => ∃ g, v = .slice (some ⟨g, 0, none⟩) 0 0 ∧ w.ownsRow N e z v 0 []
theorem Bare.keeps {N : Nat} {e : TypeId} {z : Nat} : Keeps [] (Bare N e z) := fun w w' v f ⟨g, h, ho⟩ => ⟨g, h, Own.keeps w w' v f ho⟩
theorem Bare.new {N : Nat} {w : World} (e : TypeId) (z : Nat) (h : N ≤ w.heap.size) : Bare N e z (w.alloc (.cells #[] e)) (.slice (some ⟨w.heap.size, 0, none⟩) 0 0) := ⟨_, rfl, Own.new e z h⟩
theorem run_append_bare {P : Program} {w : World} (base : Nat) (t ty e : TypeId) (i : TypeInfo) (z : Value) (size bytes : Nat) (ht : P.underlying t = some (.slice e)) (hi : P.info? e = some i) (hz : i.zero = some z)
    (hsize : i.size = size) (hby : i.bytes = bytes) (hzs : z.cells.size = size) (hsz : 0 < size)
    (v : Value) (hb : Bare base e size w v) (y : Value) (m : Nat) (news : List Value) (hsrc : Src m news w y) (hl : news.length = m * size) (h1 : ∀ u ∈ news, u.oneCell' = true)
    (h63 : m ≤ maxLen) (hbytes : m * bytes ≤ 140737488355328) (hbase : base ≤ w.heap.size) :
    ∃ v' w', (Builtin.append_ #[t, t] ty #[v, y]).run P w = .ok v' w' ∧ w'.ownsRow base e size v' m news ∧ Fr [] w w' := by
  obtain ⟨g, rfl, ho⟩ := hb
  rcases hsrc with ⟨rfl, rfl, rfl⟩ | ⟨a, c, rfl, hnews⟩
  · exact ⟨_, _, run_append_none w t ty e i ht hi _ 0 0 (Nat.le_refl _), ho, Fr.refl _ _⟩
  · by_cases hm : m = 0
    · subst hm
      have hn : news = [] := List.eq_nil_of_length_eq_zero (by simpa using hl)
      subst hn
      have hf := run_firstCells_some (P := P) w i.size 0 a 0 c [] (by simp) (by simp)
      refine ⟨_, w, ?_, ho, Fr.refl _ _⟩
      simp [Builtin.append_, run_underlying ht, sizeOf, typeInfo, hi, Builtin.lenOf, hf, storeCells]
    · obtain ⟨v', w', hr, h2, -, -⟩ := run_append_own (P := P) w base t ty e i z size bytes ht hi hz hsize hby hzs hsz _ 0 [] ho a m c news hl hnews h1 (by omega) (by simpa using hbytes) hbase
      have hr2 := run_append_grow (P := P) w t ty e i z ht hi hz ⟨g, 0, none⟩ 0 0 [] (by simp) (by simp) a m c news (by rw [hsize]; exact hl) hnews (by omega) (by unfold maxLen at h63; omega) (growslice_fits (by omega) (by rw [hby]; simpa using hbytes))
      rw [hr] at hr2
      injection hr2 with e1 e2
      rw [Nat.zero_add, List.nil_append] at h2
      refine ⟨v', w', hr, h2, ?_⟩
      rw [e2]
      exact ((Fr.refl _ _).drew).alloc _
theorem wp_append_bare {P : Program} {w : World} {o : Oper} {a : Act} {K : Act → World → Prop} {Q : Exit → Act → World → Prop} (s x : Operand) (t : TypeId)
    (ho : o.op = .call { callee := .builtin .append, args := #[s, x], argTypes := #[t, t] })
    (base : Nat) (e : TypeId) (i : TypeInfo) (z : Value) (size bytes : Nat) (ht : P.underlying t = some (.slice e)) (hi : P.info? e = some i) (hz : i.zero = some z)
    (hsize : i.size = size) (hby : i.bytes = bytes) (hzs : z.cells.size = size) (hsz : 0 < size)
    (v : Value) (hs : a.eval s = v) (hb : Bare base e size w v)
    (y : Value) (m : Nat) (news : List Value) (hx : a.eval x = y) (hsrc : Src m news w y) (hl : news.length = m * size) (h1 : ∀ u ∈ news, u.oneCell' = true)
    (h63 : m ≤ maxLen) (hbytes : m * bytes ≤ 140737488355328) (hbase : base ≤ w.heap.size)
    (h : ∀ v' w', w'.ownsRow base e size v' m news → Fr [] w w' → K (a.put o.dst v') w') : o.wp P a w K Q := by
  obtain ⟨v', w', hr, h2, h3⟩ := run_append_bare (P := P) (w := w) base t o.type e i z size bytes ht hi hz hsize hby hzs hsz v hb y m news hsrc hl h1 h63 hbytes hbase
  unfold Oper.wp execOp
  simp only [ho, resolve, invoke, builtin, Sem.run_bind, Sem.run_pure, Result.andThen_ok, List.map_toArray, List.map_cons, List.map_nil, hs, hx, hr]
  exact h v' w' h2 h3
theorem Rowed.src {N m : Nat} {xs : List Value} {w : World} {v : Value} (h : Rowed N m xs w v) : Src m xs w v := by
  obtain ⟨ad, c, e, _, hc⟩ := h
  exact .inr ⟨ad, c, e, hc⟩
/-- What a slice holds that does not lie in L, nor from N on. -/
def SrcO (N : Nat) (L : List Nat) (m : Nat) (xs : List Value) : World → Value → Prop := fun w v => Src m xs w v ∧ ∀ A n c, v = .slice (some A) n c → A.block < N ∧ A.block ∉ L
theorem SrcO.keepsN {N m : Nat} {L : List Nat} {xs : List Value} : KeepsN N L (SrcO N L m xs) := fun M w w' v hM f ⟨h, ho⟩ =>
  ⟨h.fr f fun A n c e hm => by rcases hM _ hm with h1 | h1; exact (ho A n c e).2 h1; have := (ho A n c e).1; omega, ho⟩
/-- One element, in a fresh block. -/
theorem Src.one {w : World} {cs : Array Value} {t : TypeId} : Src 1 cs.toList (w.alloc (.cells cs t)) (.slice (some ⟨w.heap.size, 0, none⟩) 1 1) :=
  .inr ⟨_, _, rfl, fun j u hj => by rw [Go.WideShapes.add_plain, Nat.zero_add]; exact (Blk.new w cs t).cell j (by simpa using hj)⟩
end Go.Proofs.YtodlbajpcbdbaaaDoor
namespace Go.Proofs.YtodlbajpcbdbaaaDoor
open Go.RowKit
set_option linter.unusedVariables false
set_option linter.unusedSimpArgs false
set_option maxRecDepth 100000

/-- A slice of these bytes, that lies below N, or in a block of bytes. -/
def Bts (N : Nat) (w : World) (s : Sl) (l : List Int) : Prop := Ints .u8 w s.v l ∧ (l ≠ [] → ∀ b ∈ s.blk, b < N ∨ ∃ cs f, w.heap[b]? = some (.cells cs 5 f))
theorem Ints.n' {k : IntKind} {w : World} {s : Sl} {l : List Int} (h : Ints k w s.v l) : s.n = l.length := by
  rcases h with ⟨e, rfl⟩ | ⟨A, cap, e, _⟩
  · cases s; simp [Sl.v] at e; simp [e]
  · cases s; simp [Sl.v] at e; simp [e]
theorem Ints.at' {k : IntKind} {w : World} {s : Sl} {l : List Int} (h : Ints k w s.v l) (i : Nat) (hi : i < l.length) : ∃ b off, s.A = some ⟨b, off, none⟩ ∧ w.cell? ⟨b, off + i, none⟩ = some (.int k l[i]) := by
  rcases h with ⟨e, rfl⟩ | ⟨A, cap, e, hA⟩
  · simp at hi
  · obtain ⟨b, off, x, eA, hc, -, rfl⟩ := hA.at_ i hi
    cases eA
    cases s
    simp only [Sl.v, Value.slice.injEq] at e
    exact ⟨b, off, e.1, hc⟩
theorem Bts.n {N : Nat} {w : World} {s : Sl} {l : List Int} (h : Bts N w s l) : s.n = l.length := h.1.n'
theorem Bts.nil (N : Nat) (w : World) : Bts N w Sl.nil [] := ⟨Ints.nil _ _, fun h => absurd rfl h⟩
theorem Bts.fr {N : Nat} {w w' : World} {s : Sl} {l : List Int} (h : Bts N w s l) (f : Fr [] w w') : Bts N w' s l := ⟨h.1.fr f, fun hl b hb => (h.2 hl b hb).imp id fun ⟨cs, fz, e⟩ => ⟨cs, fz, f.keeps e (by simp)⟩⟩
theorem blk_mem {s : Sl} {A : Addr} {n c : Nat} (e : s.v = .slice (some A) n c) : A.block ∈ s.blk := by cases s; simp only [Sl.v, Value.slice.injEq] at e; simp [Sl.blk, e.1]
theorem mem_blk {s : Sl} {b : Nat} (h : b ∈ s.blk) : ∃ A, s.A = some A ∧ A.block = b := by
  cases hA : s.A with
  | none => simp [Sl.blk, hA] at h
  | some a => simp [Sl.blk, hA] at h; exact ⟨a, rfl, h.symm⟩
/-- Behind a change of blocks from N on that hold no bytes. -/
theorem Bts.frL {N : Nat} {w w' : World} {s : Sl} {l : List Int} {L : List Nat} (h : Bts N w s l) (f : Fr L w w') (hL : ∀ x ∈ L, N ≤ x ∧ ∀ cs fz, w.heap[x]? ≠ some (.cells cs 5 fz)) : Bts N w' s l := by
  by_cases hl : l = []
  · subst hl
    refine ⟨?_, fun h => absurd rfl h⟩
    rcases h.1 with h1 | ⟨A, cap, e, h1⟩
    · exact .inl h1
    · exact .inr ⟨A, cap, e, by simp, .inl rfl⟩
  · have hn : ∀ b ∈ s.blk, b ∉ L := fun b hb hm => by
      rcases h.2 hl b hb with h1 | ⟨cs, fz, e⟩
      · have := (hL b hm).1; omega
      · exact (hL b hm).2 cs fz e
    exact ⟨h.1.frL f fun A n c e => hn _ (blk_mem e), fun hl b hb => (h.2 hl b hb).imp id fun ⟨cs, fz, e⟩ => ⟨cs, fz, f.keeps e (hn b hb)⟩⟩
theorem Bts.more {N N' : Nat} {w : World} {s : Sl} {l : List Int} (h : Bts N w s l) (hN : N ≤ N') : Bts N' w s l := ⟨h.1, fun hl b hb => (h.2 hl b hb).imp (fun h => by omega) id⟩
theorem Bts.low {N : Nat} {w : World} {s : Sl} {l : List Int} (h : Bts N w s l) (N' : Nat) (hy : ∀ b ∈ s.blk, N ≤ b) : Bts N' w s l := ⟨h.1, fun hl b hb => .inr ((h.2 hl b hb).resolve_left (fun h => by have := hy b hb; omega))⟩
/-- An argument's bytes. -/
theorem Bts.arg {w : World} {s : Sl} {l : List Int} (h : Ints .u8 w s.v l) : Bts w.heap.size w s l := by
  refine ⟨h, fun hl b hb => .inl ?_⟩
  obtain ⟨A, hA, rfl⟩ := mem_blk hb
  obtain ⟨b, o, e, hc⟩ := h.at' 0 (List.length_pos_iff.2 hl)
  rw [hA] at e; cases e
  exact World.block_lt_of_cell? w _ hc
theorem Bts.own {N : Nat} {w : World} {s : Sl} {l : List Int} (h : w.ownsRow N 5 1 s.v l.length (l.map (Value.int .u8))) (hw : ∀ x ∈ l, (Lit.int .u8 x).wf = true) (N' : Nat) : Bts N' w s l := by
  refine ⟨Ints.own h hw, fun hl b hb => .inr ?_⟩
  obtain ⟨A, hA, rfl⟩ := mem_blk hb
  rcases h.2 with ⟨e, _⟩ | ⟨g, cap, cur, e, hg, hc, _⟩
  · cases s; simp only [Sl.v, Value.slice.injEq] at e; rw [e.1] at hA; cases hA
  · cases s; simp only [Sl.v, Value.slice.injEq] at e; rw [e.1] at hA; cases hA; exact ⟨_, _, hc⟩
theorem Bts.wf {N : Nat} {w : World} {s : Sl} {l : List Int} (h : Bts N w s l) : ∀ x ∈ l, (Lit.int .u8 x).wf = true := by
  rcases h.1 with ⟨_, rfl⟩ | ⟨A, cap, e, h1⟩
  · simp
  · exact h1.1
theorem own_blk {w : World} {B : Nat} {e : TypeId} {size n : Nat} {s : Sl} {xs : List Value} (h : w.ownsRow B e size s.v n xs) : ∀ b ∈ s.blk, B ≤ b ∧ ∃ cs, w.heap[b]? = some (.cells cs e (0, 0)) := by
  intro b hb
  obtain ⟨A, hA, rfl⟩ := mem_blk hb
  rcases h.2 with ⟨e, _⟩ | ⟨g, cap, cur, e, hg, hc, _⟩
  · cases s; simp only [Sl.v, Value.slice.injEq] at e; rw [e.1] at hA; cases hA
  · cases s; simp only [Sl.v, Value.slice.injEq] at e; rw [e.1] at hA; cases hA; exact ⟨hg, _, hc⟩
theorem own_sl' {w : World} {B : Nat} {e : TypeId} {z n : Nat} {v : Value} {xs : List Value} (h : w.ownsRow B e z v n xs) : ∃ s : Sl, v = .slice s.A s.n s.c := by
  rcases h.2 with ⟨e, _⟩ | ⟨g, cap, cur, e, _⟩
  · exact ⟨Sl.nil, e⟩
  · exact ⟨⟨_, _, _⟩, e⟩
theorem own_fr {w w' : World} {B : Nat} {e : TypeId} {size n : Nat} {v : Value} {xs : List Value} (h : w.ownsRow B e size v n xs) (f : Fr [] w w') : w'.ownsRow B e size v n xs := Own.keeps _ _ _ f h
/-- Fresh bytes: what a function hands out. -/
def New (w w' : World) (v : Value) (l : List Int) : Prop := ∃ s : Sl, v = .slice s.A s.n s.c ∧ Bts w.heap.size w' s l ∧ (∀ b ∈ s.blk, w.heap.size ≤ b)
theorem flat_get {α β : Type} (f : α → List β) (n : Nat) (hf : ∀ x, (f x).length = n) : ∀ (l : List α) (i j : Nat) (hi : i < l.length), j < n → (l.flatMap f)[i * n + j]? = (f l[i])[j]?
  | x :: l, 0, j, _, hj => by
    rw [List.flatMap_cons, List.getElem?_append_left (by rw [hf]; omega)]; simp
  | x :: l, i + 1, j, hi, hj => by
    rw [List.flatMap_cons, List.getElem?_append_right (by rw [hf, Nat.succ_mul]; omega), hf, show (i + 1) * n + j - n = i * n + j by rw [Nat.succ_mul]; omega]
    simpa using flat_get f n hf l i j (by simpa using hi) hj
theorem own_n {w : World} {B : Nat} {e : TypeId} {z n : Nat} {s : Sl} {xs : List Value} (h : w.ownsRow B e z s.v n xs) : s.n = n := by
  rcases h.2 with ⟨e, h0⟩ | ⟨g, cap, cur, e, _⟩
  · cases s; simp [Sl.v] at e; simp [e]; omega
  · cases s; simp [Sl.v] at e; simp [e]
theorem own_at {w : World} {B : Nat} {e : TypeId} {z n : Nat} {s : Sl} {xs : List Value} (h : w.ownsRow B e z s.v n xs) (hn : 0 < n) : ∃ b, s.A = some ⟨b, 0, none⟩ ∧ ∀ i v, xs[i]? = some v → w.cell? ⟨b, i, none⟩ = some v := by
  have hc := @World.ownsRow.cells _ _ _ _ _ _ _ h
  rcases h.2 with ⟨e, h0⟩ | ⟨g, cap, cur, e, _⟩
  · omega
  · cases s
    simp only [Sl.v, Value.slice.injEq] at e
    obtain ⟨rfl, rfl, rfl⟩ := e
    refine ⟨g, rfl, fun i v hv => ?_⟩
    have := hc (g := g) rfl i v hv
    rw [Go.WideShapes.add_plain] at this
    simpa using this
theorem own_low {w : World} {B B' : Nat} {e : TypeId} {size n : Nat} {v : Value} {xs : List Value} (h : w.ownsRow B e size v n xs) (hb : B' ≤ B) : w.ownsRow B' e size v n xs :=
  ⟨h.1, h.2.imp id fun ⟨g, cap, cur, e, hg, r⟩ => ⟨g, cap, cur, e, Nat.le_trans hb hg, r⟩⟩
def All2 {α β : Type} (r : β → α → Prop) : List β → List α → Prop
  | [], [] => True
  | x :: xs, y :: ys => r x y ∧ All2 r xs ys
  | _, _ => False
theorem All2.imp {α β : Type} {r q : β → α → Prop} (h : ∀ x y, r x y → q x y) : ∀ {xs : List β} {ys : List α}, All2 r xs ys → All2 q xs ys
  | [], [], _ => trivial
  | _ :: _, _ :: _, ⟨h1, h2⟩ => ⟨h _ _ h1, h2.imp h⟩
theorem All2.snoc {α β : Type} {r : β → α → Prop} {x : β} {y : α} (h0 : r x y) : ∀ {xs : List β} {ys : List α}, All2 r xs ys → All2 r (xs ++ [x]) (ys ++ [y])
  | [], [], _ => ⟨h0, trivial⟩
  | _ :: _, _ :: _, ⟨h1, h2⟩ => ⟨h1, h2.snoc h0⟩
theorem All2.len {α β : Type} {r : β → α → Prop} : ∀ {xs : List β} {ys : List α}, All2 r xs ys → xs.length = ys.length
  | [], [], _ => rfl
  | _ :: _, _ :: _, ⟨_, h2⟩ => by simp [h2.len]
theorem All2.get {α β : Type} {r : β → α → Prop} : ∀ {xs : List β} {ys : List α}, All2 r xs ys → ∀ i (hx : i < xs.length) (hy : i < ys.length), r xs[i] ys[i]
  | _ :: _, _ :: _, ⟨h1, _⟩, 0, _, _ => h1
  | _ :: _, _ :: _, ⟨_, h2⟩, i + 1, hx, hy => by simpa using h2.get i (by simpa using hx) (by simpa using hy)
def RowG {α : Type} (T : TypeId) (z : Nat) (rep : World → List Value → α → Prop) (B : Nat) (w : World) (s : Sl) (l : List α) : Prop :=
  ∃ xs : List (List Value), w.ownsRow B T z s.v l.length xs.flatten ∧ All2 (rep w) xs l ∧ ∀ x ∈ xs, x.length = z
theorem RowG.nil {α : Type} {T : TypeId} {z : Nat} {rep : World → List Value → α → Prop} {B : Nat} {w : World} : RowG T z rep B w Sl.nil [] := ⟨[], World.ownsRow_nil _ _ _ _, trivial, by simp⟩
theorem RowG.fr {α : Type} {T : TypeId} {z : Nat} {rep : World → List Value → α → Prop} {B : Nat} {w w' : World} {s : Sl} {l : List α} (hr : ∀ cs d, rep w cs d → rep w' cs d) (h : RowG T z rep B w s l) (f : Fr [] w w') : RowG T z rep B w' s l := by
  obtain ⟨xs, h1, h2, h3⟩ := h
  exact ⟨xs, own_fr h1 f, h2.imp fun _ _ h => hr _ _ h, h3⟩
theorem RowG.blk {α : Type} {T : TypeId} {z : Nat} {rep : World → List Value → α → Prop} {B : Nat} {w : World} {s : Sl} {l : List α} (h : RowG T z rep B w s l) : ∀ b ∈ s.blk, B ≤ b ∧ ∃ cs, w.heap[b]? = some (.cells cs T (0, 0)) := by
  obtain ⟨xs, h1, _⟩ := h; exact own_blk h1
theorem RowG.n {α : Type} {T : TypeId} {z : Nat} {rep : World → List Value → α → Prop} {B : Nat} {w : World} {s : Sl} {l : List α} (h : RowG T z rep B w s l) : s.n = l.length := by
  obtain ⟨xs, h1, _⟩ := h; exact own_n h1
theorem RowG.push {α : Type} {T : TypeId} {z : Nat} {rep : World → List Value → α → Prop} {B : Nat} {w w' : World} {s' : Sl} {l : List α} {xs : List (List Value)} {cs : List Value} {d : α}
    (h2 : All2 (rep w) xs l) (h3 : ∀ x ∈ xs, x.length = z) (hown : w'.ownsRow B T z s'.v (l.length + 1) (xs.flatten ++ cs)) (hr : ∀ cs d, rep w cs d → rep w' cs d) (hc : cs.length = z) (hd : rep w' cs d) : RowG T z rep B w' s' (l ++ [d]) := by
  refine ⟨xs ++ [cs], by simpa using hown, ?_, fun x hx => ?_⟩
  · exact (h2.imp fun _ _ h => hr _ _ h).snoc hd
  · rcases List.mem_append.1 hx with hx | hx
    · exact h3 x hx
    · simp at hx; subst hx; exact hc
theorem RowG.frL {α : Type} {T : TypeId} {z : Nat} {rep : World → List Value → α → Prop} {B : Nat} {w w' : World} {s : Sl} {l : List α} {L : List Nat} (h : RowG T z rep B w s l) (f : Fr L w w') (hn : ∀ b ∈ s.blk, b ∉ L) (hr : ∀ cs d, rep w cs d → rep w' cs d) : RowG T z rep B w' s l := by
  obtain ⟨xs, h1, h2, h3⟩ := h
  refine ⟨xs, ⟨h1.1, h1.2.imp id fun ⟨g, cap, cur, e, hg, hb, r⟩ => ⟨g, cap, cur, e, hg, f.keeps hb (hn g (blk_mem e)), r⟩⟩, h2.imp fun _ _ h => hr _ _ h, h3⟩
theorem Blk.noB {w : World} {b : Nat} {cs : Array Value} {t : TypeId} (h : Blk w b cs t) (ht : t ≠ 5) : ∀ cs fz, w.heap[b]? ≠ some (.cells cs 5 fz) := fun cs' fz e => by
  rw [Blk] at h
  rw [h] at e
  cases e
  exact ht rfl
theorem Fr.grownL {w w' : World} {s : Sl} (g : w.grownBy w' s.v.ownBlock) : Fr s.blk w w' := by
  refine (Fr.refl _ _).grown g fun k hk => .inl ?_
  cases s with
  | mk A n c =>
    cases A with
    | none => simp [Value.ownBlock] at hk
    | some a => simp [Value.ownBlock] at hk; simp [Sl.blk, hk]
theorem All2.getE {α β : Type} {r : β → α → Prop} : ∀ {xs : List β} {ys : List α}, All2 r xs ys → ∀ {k : Nat} {y : α}, ys[k]? = some y → ∃ x, xs[k]? = some x ∧ r x y
  | [], [], _, k, y, hk => by simp at hk
  | x :: xs, y' :: ys, h, 0, y, hk => by
    simp only [List.getElem?_cons_zero, Option.some.injEq] at hk
    subst hk
    exact ⟨x, rfl, h.1⟩
  | x :: xs, y' :: ys, h, k + 1, y, hk => All2.getE h.2 hk
  | [], _ :: _, h, _, _, _ => h.elim
  | _ :: _, [], h, _, _, _ => h.elim
theorem flat_getG {α : Type} (z : Nat) : ∀ {xs : List (List α)}, (∀ x ∈ xs, x.length = z) → ∀ {k : Nat} {x : List α}, xs[k]? = some x → ∀ {j : Nat}, j < z → xs.flatten[k * z + j]? = x[j]?
  | [], _, k, x, hk, _, _ => by simp at hk
  | y :: ys, h, 0, x, hk, j, hj => by
    simp only [List.getElem?_cons_zero, Option.some.injEq] at hk
    subst hk
    rw [List.flatten_cons, List.getElem?_append_left (by rw [h y (by simp)]; omega)]
    simp
  | y :: ys, h, k + 1, x, hk, j, hj => by
    simp only [List.getElem?_cons_succ] at hk
    have hy := h y (by simp)
    rw [List.flatten_cons, List.getElem?_append_right (by rw [hy, Nat.add_mul]; omega), ← flat_getG z (fun x hx => h x (by simp [hx])) hk hj, hy]
    congr 1
    rw [Nat.add_mul]
    omega
theorem RowG.get {α : Type} {T : TypeId} {z : Nat} {rep : World → List Value → α → Prop} {B : Nat} {w : World} {s : Sl} {l : List α} (h : RowG T z rep B w s l) {k : Nat} {d : α} (hk : l[k]? = some d) :
    ∃ b x, s.A = some ⟨b, 0, none⟩ ∧ x.length = z ∧ rep w x d ∧ ∀ j, j < z → w.cell? ⟨b, k * z + j, none⟩ = x[j]? := by
  obtain ⟨xs, h1, h2, h3⟩ := h
  obtain ⟨x, hx, hr⟩ := h2.getE hk
  have hl : k < l.length := (List.getElem?_eq_some_iff.1 hk).1
  obtain ⟨b, hA, hc⟩ := own_at h1 (by omega)
  have hz := h3 x (List.mem_of_getElem? hx)
  refine ⟨b, x, hA, hz, hr, fun j hj => ?_⟩
  have hf := flat_getG z h3 hx hj
  obtain ⟨v, hv⟩ : ∃ v, x[j]? = some v := ⟨x[j]'(by omega), List.getElem?_eq_getElem _⟩
  rw [hv] at hf ⊢
  exact hc _ _ hf
theorem Blk.ty {w : World} {b : Nat} {cs : Array Value} {t u : TypeId} (h : Blk w b cs t) {cs' : Array Value} {f : Nat × Nat} (h' : w.heap[b]? = some (.cells cs' u f)) : t = u := by
  rw [Blk, h'] at h
  cases h
  rfl
/-- Of the blocks L none is a row of a type. -/
def TyOut (w : World) (L : List Nat) (t : TypeId) : Prop := ∀ x ∈ L, ∀ cs f, w.heap[x]? ≠ some (.cells cs t f)
theorem TyOut.nil (w : World) (t : TypeId) : TyOut w [] t := fun _ h => by cases h
theorem TyOut.cons {w : World} {x : Nat} {L : List Nat} {t u : TypeId} {cs : Array Value} (h : Blk w x cs u) (ne : u ≠ t) (hL : TyOut w L t) : TyOut w (x :: L) t := fun y hy cs' f e => by
  rcases List.mem_cons.1 hy with rfl | hy
  · exact ne (Blk.ty h e)
  · exact hL y hy cs' f e
theorem TyOut.own {w : World} {N : Nat} {u t : TypeId} {z n : Nat} {s : Sl} {xs : List Value} (h : w.ownsRow N u z s.v n xs) (ne : u ≠ t) : TyOut w s.blk t := fun y hy cs' f e => by
  obtain ⟨_, cs, e2⟩ := own_blk h y hy
  rw [e2] at e
  cases e
  exact ne rfl
theorem TyOut.app {w : World} {A B : List Nat} {t : TypeId} (h : TyOut w A t) (k : TyOut w B t) : TyOut w (A ++ B) t := fun y hy => by
  rcases List.mem_append.1 hy with hy | hy
  · exact h y hy
  · exact k y hy
theorem Blk.ofTy {w w' : World} {b : Nat} {cs : Array Value} {t : TypeId} {L : List Nat} (h : Blk w b cs t) (f : Fr L w w') (hL : TyOut w L t) : Blk w' b cs t := h.fr f fun hm => hL b hm _ _ h
theorem own_ofTy {w w' : World} {N : Nat} {u : TypeId} {z n : Nat} {s : Sl} {xs : List Value} {L : List Nat} (h : w.ownsRow N u z s.v n xs) (f : Fr L w w') (hL : TyOut w L u) : w'.ownsRow N u z s.v n xs :=
  ⟨h.1, h.2.imp id fun ⟨g, cap, cur, e, hg, hb, q⟩ => ⟨g, cap, cur, e, hg, f.keeps hb fun hm => hL g hm _ _ hb, q⟩⟩
theorem Blk.nin {w : World} {b : Nat} {cs : Array Value} {t : TypeId} {L : List Nat} (h : Blk w b cs t) (hL : TyOut w L t) : b ∉ L := fun hm => hL b hm _ _ h
theorem own_nin {w : World} {N : Nat} {u : TypeId} {z n : Nat} {s : Sl} {xs : List Value} {L : List Nat} (h : w.ownsRow N u z s.v n xs) (hL : TyOut w L u) : ∀ b ∈ s.blk, b ∉ L := fun b hb hm => by
  obtain ⟨_, cs, e⟩ := own_blk h b hb
  exact hL b hm _ _ e
end Go.Proofs.YtodlbajpcbdbaaaDoor
namespace Go.Proofs.YtodlbajpcbdbaaaDoor
open Go.RowKit Go.Shelf
set_option linter.unusedVariables false
set_option linter.unusedSimpArgs false
set_option maxRecDepth 100000

def _root_.ByteArray.bytes (s : ByteArray) : List UInt8 := s.data.toList
theorem bytes_app (a b : ByteArray) : (a ++ b).bytes = a.bytes ++ b.bytes := by unfold ByteArray.bytes; rw [ByteArray.data_append, Array.toList_append]
theorem bytes_mk (l : List UInt8) : (⟨l.toArray⟩ : ByteArray).bytes = l := rfl
theorem ba_bytes {a b : ByteArray} (h : a.bytes = b.bytes) : a = b := by
  cases a; cases b
  simp only [ByteArray.mk.injEq]
  exact Array.toList_inj.1 h
theorem ret_str {a b : ByteArray} (h : a.bytes = b.bytes) : Ending.returned (.string a) = .returned (.string b) := by rw [ba_bytes h]
/-- What the library's tables and errors hold. -/
def IsErr (ev : Value) : Prop := ev = .nilIface ∨ ∃ te pe, ev = .iface te pe
structure Env (w : World) : Prop where
  tab : Lib.TabBelow Tryd.prog 8 w "internal/strconv.uint64pow10" .u64 Lib.pow10Tab
  most : ∃ m, w.cell? ⟨0, 0, none⟩ = some (.int .i64 m)
  syn : ∃ ev, w.cell? ⟨4, 0, none⟩ = some ev ∧ IsErr ev
  rng : ∃ ev, w.cell? ⟨5, 0, none⟩ = some ev ∧ IsErr ev
  size : 8 ≤ w.heap.size
theorem Env.fr {L : List Nat} {w w' : World} (h : Env w) (f : Fr L w w') (hL : ∀ x ∈ L, 8 ≤ x) : Env w' := by
  have n : ∀ k, k < 8 → k ∉ L := fun k hk hm => by have := hL k hm; omega
  obtain ⟨m, hm⟩ := h.most
  obtain ⟨e1, h1, h2⟩ := h.syn
  obtain ⟨e2, h3, h4⟩ := h.rng
  exact ⟨h.tab.on (f.below h.size hL), ⟨m, f.cell hm (n _ (by decide))⟩, ⟨e1, f.cell h1 (n _ (by decide)), h2⟩, ⟨e2, f.cell h3 (n _ (by decide)), h4⟩, Nat.le_trans h.size f.size⟩
theorem Env.fr0 {w w' : World} (h : Env w) (f : Fr [] w w') : Env w' := h.fr f (by simp)
theorem Env.here {w : World} (h : Env w) : Lib.TabIs Tryd.prog w "internal/strconv.uint64pow10" .u64 Lib.pow10Tab := h.tab.here
theorem Fr.grown0 (w : World) (k : Nat) (os : Array Obj) : Fr [] w (Go.«Sort».grow (w.drewN k) os) := Fr.of_below (Lib.below_grow _ w (Nat.le_refl _) k os)
theorem Fr.bytes (w : World) (e : TypeId) (s : ByteArray) : Fr [] w (Lib.bytesWorld w e s) := Fr.of_below (Lib.bytesWorld_below w e s)
theorem ba_ext {a b : ByteArray} (h : a.data.toList = b.data.toList) : a = b := by
  cases a; cases b
  simp only [ByteArray.mk.injEq]
  exact Array.toList_inj.1 h
theorem ba_of (s : ByteArray) : s = ⟨s.data.toList.toArray⟩ := ba_ext rfl

set_option maxHeartbeats 2000000 in
theorem scr_number_ok (w : World) (s : ByteArray) (n : Int) (hE : Env w) (hs : s.size ≤ 281474976710656) (h : numM s.data.toList = some n) :
    Calls Tryd.prog 42 #[.string s] w fun e w' => e = .returned (.tuple #[.int .i64 n, .bool true]) ∧ Fr [] w w' := by
  have hi := itoa_numM h
  have hi2 := hi
  have hr := numM_range h
  have hp : Lib.parseIntB 64 s.data.toList = .ok n := by
    unfold numM at h
    split at h
    · rename_i v hv
      split at h
      · cases h; exact hv
      · cases h
    · cases h
  have es : s = ⟨(Lib.itoa n).toArray⟩ := by rw [hi]
  have HE := Lib.hid hE
  have HS := Lib.hid es
  have hc := Tryd.strconv_ParseInt_10_at64_ok s (by omega) n hp w
  clear h hi hp es hE
  go_enter Tryd.func42, Tryd.ntmps42
  go_wp2_with fail
  refine hc.mono ?_
  rintro e w1 ⟨rfl, hw⟩
  have f1 : Fr [] w w1 := by
    rcases hw with rfl | ⟨t, rfl⟩
    · exact Fr.refl _ _
    · exact Fr.bytes _ _ _
  have hf := Tryd.strconv_FormatInt_10 n hr.1 hr.2 w1 (HE.out.fr0 f1).here
  have HF := Lib.hid f1
  clear hw hc f1
  go_wp2_with fail
  refine hf.mono ?_
  rintro e w2 ⟨rfl, k, os, rfl⟩
  have f2 := HF.out.trans (Fr.grown0 w1 k os) (by simp)
  have HF2 := Lib.hid f2
  have hq : (Lib.itoa n == s.toList) = true := by rw [ByteArray.toList_eq, hi2, beq_self_eq_true]
  clear f2 hf
  go_wp2
  go_ret2
  exact ⟨rfl, HF2.out⟩
theorem parseIntB_bounds' {l : List UInt8} {n : Int} (hv : Lib.parseIntB 64 l = .ok n) : -9223372036854775808 ≤ n ∧ n ≤ 9223372036854775807 := by
  have := Lib.parseIntB_bounds hv
  simp only [Nat.reducePow, Nat.reduceSub] at this
  omega
def NumNo (e : Ending) : Prop := ∃ n, e = .returned (.tuple #[.int .i64 n, .bool false])
set_option maxHeartbeats 2000000 in
theorem scr_number_no (w : World) (s : ByteArray) (hE : Env w) (hs : s.size ≤ 281474976710656) (h : numM s.data.toList = none) :
    Calls Tryd.prog 42 #[.string s] w fun e w' => NumNo e ∧ Fr [] w w' := by
  cases hp : Lib.parseIntB 64 s.data.toList with
  | ok n =>
    have hr := parseIntB_bounds' hp
    have hne : (Lib.itoa n == s.toList) = false := by
      rw [beq_eq_false_iff_ne, ByteArray.toList_eq]
      intro e
      unfold numM at h
      rw [hp] at h
      simp [e] at h
    have HE := Lib.hid hE
    have hc := Tryd.strconv_ParseInt_10_at64_ok s (by omega) n hp w
    clear h hp hE
    go_enter Tryd.func42, Tryd.ntmps42
    go_wp2_with fail
    refine hc.mono ?_
    rintro e w1 ⟨rfl, hw⟩
    have f1 : Fr [] w w1 := by
      rcases hw with rfl | ⟨t, rfl⟩
      · exact Fr.refl _ _
      · exact Fr.bytes _ _ _
    have hf := Tryd.strconv_FormatInt_10 n hr.1 hr.2 w1 (HE.out.fr0 f1).here
    have HF := Lib.hid f1
    clear hw hc f1
    go_wp2_with fail
    refine hf.mono ?_
    rintro e w2 ⟨rfl, k, os, rfl⟩
    have f2 := HF.out.trans (Fr.grown0 w1 k os) (by simp)
    have HF2 := Lib.hid f2
    clear f2 hf
    go_wp2
    go_ret2
    exact ⟨⟨n, rfl⟩, HF2.out⟩
  | «syntax» =>
    obtain ⟨ev, h1, h2⟩ := hE.syn
    have hc := Tryd.strconv_ParseInt_10_at64_syntax s hs hp ev w h1 h2
    clear h hp hE h1 h2
    go_enter Tryd.func42, Tryd.ntmps42
    go_wp2_with fail
    refine hc.mono ?_
    rintro e w1 ⟨N, rfl, _, _, hb⟩
    have HF := Lib.hid (Fr.of_below hb)
    clear hb hc
    go_wp2
    go_ret2
    exact ⟨⟨_, rfl⟩, HF.out⟩
  | range =>
    obtain ⟨ev, h1, h2⟩ := hE.rng
    have hc := Tryd.strconv_ParseInt_10_at64_range s hs hp ev w h1 h2
    generalize Lib.intSat 64 s.data.toList = sat at hc
    clear h hp hE h1 h2
    go_enter Tryd.func42, Tryd.ntmps42
    go_wp2_with fail
    refine hc.mono ?_
    rintro e w1 ⟨N, rfl, _, _, hb⟩
    have HF := Lib.hid (Fr.of_below hb)
    clear hb hc
    go_wp2
    go_ret2
    exact ⟨⟨_, rfl⟩, HF.out⟩

set_option maxHeartbeats 2000000 in
/-- A line of words. -/
theorem scr_row (w : World) (bk o c : Nat) (xs : List ByteArray) (hc : ∀ (j : Nat) x, xs[j]? = some x → w.cell? ⟨bk, o + j, none⟩ = some (.string x)) (hb : bk < w.heap.size) (hn : xs.length ≤ 1000) (hcap : xs.length ≤ c) (hl : (Lib.join (xs.map ByteArray.bytes) [32]).length ≤ 1000000000) :
    Calls Tryd.prog 30 #[.slice (some ⟨bk, o, none⟩) xs.length c] w fun e w' => e = .returned (.string ⟨(Lib.join (xs.map ByteArray.bytes) [32] ++ [10]).toArray⟩) ∧ Fr [] w w' := by
  have hj := Tryd.strings_Join bk o c xs ⟨#[32]⟩ w hc hb (by omega) hcap (by show (Lib.join (xs.map ByteArray.bytes) [32]).length ≤ _; omega)
  have hj2 : Calls Tryd.prog 52 #[.slice (some ⟨bk, o, none⟩) xs.length c, .string ⟨#[32]⟩] w fun e w' => e = .returned (.string ⟨(Lib.join (xs.map ByteArray.bytes) [32]).toArray⟩) ∧ Below w.heap.size w w' := hj
  generalize Lib.join (xs.map ByteArray.bytes) [32] = l at hj2 hl ⊢
  clear hj hc
  go_enter Tryd.func30, Tryd.ntmps30
  go_wp2_with fail
  refine hj2.mono ?_
  rintro e w1 ⟨rfl, hb1⟩
  have HF := Lib.hid (Fr.of_below hb1)
  clear hb1 hj2
  go_wp2
  go_ret
  exact ⟨ret_str (by rw [bytes_app]; rfl), HF.out⟩
end Go.Proofs.YtodlbajpcbdbaaaDoor
namespace Go.Proofs.YtodlbajpcbdbaaaDoor
open Go.RowKit Go.Shelf
set_option linter.unusedVariables false
set_option linter.unusedSimpArgs false
set_option maxRecDepth 100000

def bytesI (l : List UInt8) : List Int := l.map fun c => (c.toNat : Int)
theorem bytesI_wf (l : List UInt8) : ∀ x ∈ bytesI l, (Lit.int .u8 x).wf = true := by
  intro x hx
  obtain ⟨c, _, rfl⟩ := List.mem_map.1 hx
  have := c.toNat_lt
  simp only [Lit.wf, IntKind.min, IntKind.max, IntKind.signed, IntKind.bits, Bool.and_eq_true, decide_eq_true_eq]
  constructor <;> simp <;> omega
def hexDs : ByteArray := ⟨#[48, 49, 50, 51, 52, 53, 54, 55, 56, 57, 97, 98, 99, 100, 101, 102]⟩
def hexI (c : UInt8) : Int := match hexV c with | some n => n | none => -1
theorem hex_fin : ∀ i : Fin 256, Lib.indexByte hexDs.data.toList (UInt8.ofNat i.val) = hexI (UInt8.ofNat i.val) := by decide +kernel
theorem hex_idx (c : UInt8) : Lib.indexByte hexDs.data.toList c = hexI c := by
  have := hex_fin ⟨c.toNat, c.toNat_lt⟩
  simpa using this
theorem idx_any (c : UInt8) (w : World) : Calls Tryd.prog 63 #[.string ⟨#[48, 49, 50, 51, 52, 53, 54, 55, 56, 57, 97, 98, 99, 100, 101, 102]⟩, .int .u8 (c.toNat : Int)] w fun e w' => e = .returned (.int .i64 (hexI c)) ∧ w' = w := by
  have h := Tryd.strings_IndexByte hexDs (c.toNat : Int) w
  have e : ((c.toNat : Int).toNat.toUInt8) = c := by simp
  rw [e, hex_idx] at h
  exact h
theorem or_fin : ∀ x y : Fin 16, IntKind.u8.wrap (bits .or .i64 ((x.val : Int) * 16) (y.val : Int)) = ((16 * x.val + y.val : Nat) : Int) := by decide +kernel
theorem pairs_odd : ∀ l, l.length % 2 = 1 → pairsM l = none
  | [], h => by simp at h
  | [_], _ => rfl
  | a :: b :: r, h => by
    have := pairs_odd r (by simp only [List.length_cons] at h; omega)
    simp only [pairsM, this]
    split
    · contradiction
    · rfl
theorem pairs_app : ∀ (p q bs : List UInt8), pairsM p = some bs → pairsM (p ++ q) = (pairsM q).map (bs ++ ·)
  | [], q, bs, h => by
    simp only [pairsM, Option.some.injEq] at h
    subst h
    cases hq : pairsM q <;> simp [hq]
  | [_], q, bs, h => by simp [pairsM] at h
  | a :: b :: r, q, bs, h => by
    simp only [pairsM] at h
    simp only [List.cons_append, pairsM]
    split at h
    · rename_i x y t h1 h2 h3
      cases h
      rw [h1, h2, pairs_app r q t h3]
      cases hq : pairsM q <;> simp
    · cases h
theorem pairs_bad {a b : UInt8} {r : List UInt8} (h : hexI a < 0 ∨ hexI b < 0) : pairsM (a :: b :: r) = none := by
  simp only [pairsM]
  unfold hexI at h
  cases ha : hexV a with
  | none => rfl
  | some x =>
    cases hb : hexV b with
    | none => rfl
    | some y => rw [ha, hb] at h; simp only at h; omega
theorem pairs_good {a b : UInt8} (h : 0 ≤ hexI a) (h' : 0 ≤ hexI b) : hexI a < 16 ∧ hexI b < 16 ∧ pairsM [a, b] = some [UInt8.ofNat (16 * (hexI a).toNat + (hexI b).toNat)] := by
  unfold hexI at h h' ⊢
  cases ha : hexV a with
  | none => rw [ha] at h; simp at h
  | some x =>
    cases hb : hexV b with
    | none => rw [hb] at h'; simp at h'
    | some y =>
      have h1 := (hexD_V ha).1
      have h2 := (hexD_V hb).1
      refine ⟨by simp only; omega, by simp only; omega, ?_⟩
      simp only [pairsM, ha, hb, Int.toNat_natCast]
theorem take2 (l : List UInt8) (k : Nat) (h : 2 * k + 1 < l.length) : l.take (2 * (k + 1)) = l.take (2 * k) ++ [l[2 * k], l[2 * k + 1]] := by
  have e : 2 * (k + 1) = 2 * k + 1 + 1 := by omega
  rw [e, List.take_succ_eq_append_getElem h, List.take_succ_eq_append_getElem (show 2 * k < l.length by omega), List.append_assoc]
  rfl
theorem drop2 (l : List UInt8) (k : Nat) (h : 2 * k + 1 < l.length) : l.drop (2 * k) = l[2 * k] :: l[2 * k + 1] :: l.drop (2 * (k + 1)) := by
  rw [List.drop_eq_getElem_cons (by omega), List.drop_eq_getElem_cons h, show 2 * (k + 1) = 2 * k + 1 + 1 by omega]
def RawPost (w : World) (l : List UInt8) (e : Ending) (w' : World) : Prop := Fr [] w w' ∧ match rawM l with
  | some b => ∃ s : Sl, e = .returned (.tuple #[.slice s.A s.n s.c, .bool true]) ∧ Bts 0 w' s (bytesI b) ∧ ∀ x ∈ s.blk, w.heap.size ≤ x
  | none => e = .returned (.tuple #[.slice none 0 0, .bool false])
set_option maxHeartbeats 2000000 in
theorem scr_raw (w : World) (s : ByteArray) (hs : s.size ≤ 1000000) : Calls Tryd.prog 44 #[.string s] w (RawPost w s.bytes) := by
  obtain ⟨i0, hi0, hz0, hz1, hz2⟩ := info_parts (show (Tryd.prog.info? 5).map (fun i => (i.zero, i.size, i.bytes)) = some (some (.int .u8 0), 1, 1) by kernel_rfl)
  have hun : Tryd.prog.underlying 53 = some (.slice 5) := Tryd.underlying53
  by_cases h1 : s.bytes = [45]
  · have q1 : (s.toList == [45]) = true := by rw [ByteArray.toList_eq]; exact beq_iff_eq.2 h1
    have HP : Hid (rawM s.bytes = some []) := by rw [h1]; rfl
    clear h1
    go_enter Tryd.func44, Tryd.ntmps44
    go_wp2
    go_ret2
    refine ⟨Fr.refl _ _, ?_⟩
    rw [HP.out]
    exact ⟨Sl.nil, rfl, Bts.nil _ _, by simp [Sl.nil, Sl.blk]⟩
  · have q1 : (s.toList == [45]) = false := by rw [ByteArray.toList_eq, beq_eq_false_iff_ne]; exact h1
    by_cases h2 : s.bytes = []
    · have q2 : s.toList = [] := by rw [ByteArray.toList_eq]; exact h2
      have HP : Hid (rawM s.bytes = none) := by rw [h2]; rfl
      clear h1 h2
      go_enter Tryd.func44, Tryd.ntmps44
      go_wp2
      go_ret2
      refine ⟨Fr.refl _ _, ?_⟩
      rw [HP.out]
      rfl
    · have q2 : ¬ s.toList = [] := by rw [ByteArray.toList_eq]; exact h2
      have q2b : s.toList.isEmpty = false := by rw [List.isEmpty_eq_false_iff]; exact q2
      clear q2
      have hz : s.bytes.length = s.size := rfl
      by_cases h3 : s.size % 2 = 1
      · have HP : Hid (rawM s.bytes = none) := by unfold rawM; rw [if_neg h1, if_neg h2]; exact pairs_odd _ h3
        have q3 : (s.size : Int) % 2 = 1 := by omega
        clear h1 h2
        go_enter Tryd.func44, Tryd.ntmps44
        go_wp2
        go_ret2
        refine ⟨Fr.refl _ _, ?_⟩
        rw [HP.out]
        rfl
      · have HR : Hid (rawM s.bytes = pairsM s.bytes) := Lib.hid (by unfold rawM; rw [if_neg h1, if_neg h2])
        have q3 : (s.size : Int) % 2 = 0 := by omega
        clear h1 h2
        go_enter Tryd.func44, Tryd.ntmps44
        go_wp2
        have H3 := Lib.hid h3
        clear q3 h3
        go_loopw [4, 5] (fun b i wr => ∃ (k : Nat) (bs : List UInt8) (sl : Sl), b = .slice sl.A sl.n sl.c ∧ i = .int .i64 ((2 * k : Nat) : Int) ∧ 2 * k ≤ s.size ∧ bs.length = k ∧ pairsM (s.bytes.take (2 * k)) = some bs ∧ wr.ownsRow w.heap.size 5 1 sl.v k ((bytesI bs).map (Value.int .u8)) ∧ Fr [] w wr) (fun _ i _ => s.size - (intOf i).toNat)
        case atStart => exact ⟨0, [], Sl.nil, rfl, rfl, by omega, rfl, rfl, World.ownsRow_nil _ _ _ _, Fr.refl _ _⟩
        case round =>
          obtain ⟨k, bs, sl, rfl, rfl, hk, hbs, hp, hown, hf⟩ := hrel
          obtain ⟨j, hj⟩ : ∃ j, 2 * k = j := ⟨_, rfl⟩
          have HO := Lib.hid (And.intro hbs (And.intro hp (And.intro hown (And.intro hf hj))))
          rw [hj] at hk ⊢
          clear hbs hp hown hf
          by_cases hlt : j < s.size
          · have hl1 : j + 1 < s.size := by have := H3.out; omega
            obtain ⟨j2, hj2⟩ : ∃ j2 : Nat, j + 1 = j2 := ⟨_, rfl⟩
            have ww : IntKind.i64.wrap ((j : Int) + 1) = (j2 : Int) := by rw [IntWalk.i64_in _ (by omega)]; omega
            rw [hj2] at hl1
            have HJ := Lib.hid hj2
            clear hj hj2
            go_wp2
            go_quiet ((go_at_call 63; exact Calls.quiet_of_same (idx_any _ _)))
            have HX := Lib.hid (show s[j] = s.bytes[j]'(by rw [hz]; omega) ∧ s[j2] = s.bytes[j2]'(by rw [hz]; omega) from ⟨rfl, rfl⟩)
            have f1 : Fr [] w (wr.drewN nq) := HO.out.2.2.2.1.drewN nq
            generalize s[j] = ca at HX ⊢
            generalize s[j2] = cb at HX ⊢
            have HF := Lib.hid f1
            have HD : Hid (pairsM s.bytes = (pairsM (ca :: cb :: s.bytes.drop (2 * (k + 1)))).map (bs ++ ·)) := Lib.hid (by
              have h1 := drop2 s.bytes k (by rw [hz]; have := HO.out.2.2.2.2; have := HJ.out; omega)
              have h2 := pairs_app (s.bytes.take (2 * k)) (s.bytes.drop (2 * k)) bs HO.out.2.1
              rw [List.take_append_drop, h1] at h2
              have e1 := HO.out.2.2.2.2
              have e2 := HJ.out
              rw [h2]
              obtain ⟨x1, x2⟩ := HX.out
              subst e1 e2
              rw [x1, x2])
            have HT : Hid (s.bytes.take (2 * (k + 1)) = s.bytes.take (2 * k) ++ [ca, cb]) := Lib.hid (by
              have h1 := take2 s.bytes k (by rw [hz]; have := HO.out.2.2.2.2; have := HJ.out; omega)
              have e1 := HO.out.2.2.2.2
              have e2 := HJ.out
              obtain ⟨x1, x2⟩ := HX.out
              subst e1 e2
              rw [h1, x1, x2])
            have ownN : Hid ((wr.drewN nq).ownsRow w.heap.size 5 1 sl.v k ((bytesI bs).map (Value.int .u8))) := Lib.hid (own_fr HO.out.2.2.1 ((Fr.refl [] wr).drewN nq))
            clear f1
            obtain ⟨wx, hwx⟩ : ∃ wx, wr.drewN nq = wx := ⟨_, rfl⟩
            rw [hwx] at HF ownN ⊢
            clear hwx
            by_cases hx : hexI ca < 0 ∨ hexI cb < 0
            · have HN : Hid (pairsM s.bytes = none) := Lib.hid (by rw [HD.out, pairs_bad hx]; rfl)
              rcases hx with hx | hx
              · go_wp2
                go_ret2
                refine ⟨HF.out, ?_⟩
                rw [HR.out, HN.out]
                rfl
              · by_cases hy : hexI ca < 0
                · go_wp2
                  go_ret2
                  refine ⟨HF.out, ?_⟩
                  rw [HR.out, HN.out]
                  rfl
                · go_wp2
                  go_ret2
                  refine ⟨HF.out, ?_⟩
                  rw [HR.out, HN.out]
                  rfl
            · have hx1 : 0 ≤ hexI ca := by omega
              have hy1 : 0 ≤ hexI cb := by omega
              obtain ⟨hx2, hy2, hg⟩ := pairs_good hx1 hy1
              have HG := Lib.hid hg
              generalize hexI ca = x at hx1 hx2 HG ⊢
              generalize hexI cb = y at hy1 hy2 HG ⊢
              clear hx hg
              obtain ⟨z, hz⟩ : ∃ z : Int, IntKind.u8.wrap (bits .or .i64 (x * 16) y) = z := ⟨_, rfl⟩
              have HZ : Hid (z = ((16 * x.toNat + y.toNat : Nat) : Int) ∧ 16 * x.toNat + y.toNat < 256) := Lib.hid (by
                have := or_fin ⟨x.toNat, by omega⟩ ⟨y.toNat, by omega⟩
                rw [show ((x.toNat : Nat) : Int) = x by omega, show ((y.toNat : Nat) : Int) = y by omega] at this
                exact ⟨hz.symm.trans this, by omega⟩)
              have hbw : w.heap.size ≤ wx.heap.size := HF.out.size
              obtain ⟨j3, hj3⟩ : ∃ j3 : Nat, j + 2 = j3 := ⟨_, rfl⟩
              have wj : IntKind.i64.wrap ((j : Int) + 2) = (j3 : Int) := by rw [IntWalk.i64_in _ (by omega)]; omega
              have HJ3 := Lib.hid hj3
              clear hj3
              have hkk : k ≤ 1000000 := by have := HO.out.2.2.2.2; omega
              go_wp2_with (at_builtin; refine wpList_append_src rfl _ _ 53 rfl (w.heap.size) 5 i0 (.int .u8 0) 1 1 hun hi0 hz0 hz1 hz2 rfl (by decide) _ _ _ rfl (ownN.out.alloc _) _ 1 [.int .u8 z] rfl Src.one rfl (by intro u hu; simp at hu; subst hu; rfl) (by unfold maxLen; omega) (by omega) (by first | (simp; done) | (simp; omega)) ?_)
              intro v' w4 hown4 hgrow
              have f4 : Fr [] w w4 := (HF.out.alloc _).grown hgrow (fun k hk => .inr (ownN.out.lt k hk).1)
              obtain ⟨sl', rfl⟩ := own_sl' hown4
              have HO4 := Lib.hid (And.intro hown4 f4)
              have HREL : Hid (j3 = 2 * (k + 1) ∧ 2 * (k + 1) ≤ s.size ∧ (bs ++ [UInt8.ofNat (16 * x.toNat + y.toNat)]).length = k + 1 ∧ pairsM (s.bytes.take (2 * (k + 1))) = some (bs ++ [UInt8.ofNat (16 * x.toNat + y.toNat)]) ∧ w4.ownsRow w.heap.size 5 1 sl'.v (k + 1) ((bytesI (bs ++ [UInt8.ofNat (16 * x.toNat + y.toNat)])).map (Value.int .u8))) := by
                have a1 := HO.out.2.2.2.2
                have a2 := HJ3.out
                have a3 := HJ.out
                refine Lib.hid ⟨by omega, by omega, by simp [HO.out.1], ?_, ?_⟩
                · rw [HT.out, pairs_app _ _ _ HO.out.2.1, HG.out]; rfl
                · have := HO4.out.1
                  rw [HZ.out.1] at this
                  have e : (UInt8.ofNat (16 * x.toNat + y.toNat)).toNat = 16 * x.toNat + y.toNat := by rw [UInt8.toNat_ofNat']; have := HZ.out.2; omega
                  rw [← e] at this
                  simpa only [bytesI, List.map_append, List.map_cons, List.map_nil] using this
              clear hown4 hgrow f4 hz
              go_wp2
              go_roundw
              case rel => exact ⟨k + 1, _, sl', rfl, by rw [HREL.out.1], HREL.out.2.1, HREL.out.2.2.1, HREL.out.2.2.2.1, HREL.out.2.2.2.2, HO4.out.2⟩
              case measure => have := HJ3.out; simp [intOf]; omega
          · have he : j = s.size := by omega
            have HB : Hid (pairsM s.bytes = some bs) := Lib.hid (by have := HO.out.2.1; rwa [hj, he, List.take_of_length_le (Nat.le_of_eq hz)] at this)
            clear hj
            go_wp2
            go_ret2
            refine ⟨HO.out.2.2.2.1, ?_⟩
            rw [HR.out, HB.out]
            have ho := HO.out.2.2.1
            rw [← HO.out.1] at ho
            refine ⟨sl, rfl, Bts.own (by rw [show (bytesI bs).length = bs.length by simp [bytesI]]; exact ho) (bytesI_wf _) 0, fun x hx => (own_blk ho x hx).1⟩
end Go.Proofs.YtodlbajpcbdbaaaDoor
namespace Go.Proofs.YtodlbajpcbdbaaaDoor
open Go.RowKit Go.Shelf
set_option linter.unusedVariables false
set_option linter.unusedSimpArgs false
set_option maxRecDepth 100000

theorem hexD_fin : ∀ i : Fin 16, hexDs.data.toList[i.val]? = some (hexD i.val) := by decide +kernel
theorem hexDs_get (y : Nat) (h : y < 16) (h' : y < hexDs.size) : hexDs[y] = hexD y := by
  have := hexD_fin ⟨y, h⟩
  obtain ⟨h1, h2⟩ := List.getElem?_eq_some_iff.1 this
  exact h2
theorem Fr.belowT {w w1 w2 : World} (h : Fr [] w w1) (b : Below w.heap.size w1 w2) : Fr [] w w2 :=
  ⟨b.os.trans h.os, b.tape.trans h.tape, b.output.trans h.output, Nat.le_trans h.size b.size, fun k hk hn => (b.block k hk).trans (h.block k hk hn)⟩
theorem hexL_take (l : List UInt8) (k : Nat) (h : k < l.length) : hexL (l.take (k + 1)) = hexL (l.take k) ++ [hexD (l[k].toNat / 16)] ++ [hexD (l[k].toNat % 16)] := by
  rw [List.take_succ_eq_append_getElem h]
  unfold hexL
  rw [List.flatMap_append, List.append_assoc]
  rfl
theorem hexL_len (l : List UInt8) : (hexL l).length = 2 * l.length := by
  induction l with
  | nil => rfl
  | cons x r ih =>
    show (hexD _ :: hexD _ :: hexL r).length = _
    simp only [List.length_cons, ih]; omega
theorem byteCells_snoc (l : List UInt8) (c : UInt8) : Lib.byteCells l ++ [.int .u8 (c.toNat : Int)] = Lib.byteCells (l ++ [c]) := by simp [Lib.byteCells]
theorem byteCells_len (l : List UInt8) : (Lib.byteCells l).length = l.length := by simp [Lib.byteCells]
set_option maxHeartbeats 2000000 in
theorem scr_hex (w : World) (N : Nat) (sl : Sl) (l : List UInt8) (h : Bts N w sl (bytesI l)) (hl : l.length ≤ 1000000) :
    Calls Tryd.prog 53 #[.slice sl.A sl.n sl.c] w fun e w' => e = .returned (.string ⟨(hexM l).toArray⟩) ∧ Fr [] w w' := by
  have hn : sl.n = l.length := by rw [h.n]; simp [bytesI]
  obtain ⟨A, n, c⟩ := sl
  simp only at hn
  subst hn
  by_cases h0 : l = []
  · subst h0
    go_enter Tryd.func53, Tryd.ntmps53
    go_wp2
    go_ret
    exact ⟨rfl, Fr.refl _ _⟩
  · have hpos : 0 < l.length := List.length_pos_iff.2 h0
    have HM : Hid (hexM l = hexL l) := Lib.hid (by unfold hexM; rw [if_neg h0])
    have q0 : ((l.length : Int) == 0) = false := by rw [beq_eq_false_iff_ne]; omega
    have H := Lib.hid h
    have HB := Lib.hid (Lib.fresh_isBuilder 90 5 w)
    clear h h0
    go_enter Tryd.func53, Tryd.ntmps53
    go_wp2
    go_loopw [11] (fun i wr => ∃ k : Nat, i = .int .i64 (k : Int) ∧ k ≤ l.length ∧ Lib.IsBuilder 90 5 w.heap.size w.heap.size (Lib.byteCells (hexL (l.take k))) wr ∧ Fr [] w wr) (fun i _ => l.length - (intOf i).toNat)
    case atStart => exact ⟨0, rfl, by omega, HB.out, (Fr.refl _ _).alloc _⟩
    case round =>
      obtain ⟨k, rfl, hk, hb, hf⟩ := hrel
      have HK := Lib.hid (And.intro hb hf)
      by_cases hlt : k < l.length
      · have d1 : (k : Int) < (l.length : Int) := by omega
        obtain ⟨b, off, hA, hc⟩ := H.out.1.at' k (by simpa [bytesI] using hlt)
        have hc2 := hf.cell hc (by simp)
        simp only at hA
        subst hA
        simp only [bytesI, List.getElem_map] at hc2
        obtain ⟨x, hx⟩ : ∃ x, l[k].toNat = x := ⟨_, rfl⟩
        have hx2 : x < 256 := by rw [← hx]; exact l[k].toNat_lt
        rw [hx] at hc2
        obtain ⟨y, hy⟩ : ∃ y, x / 16 = y := ⟨_, rfl⟩
        obtain ⟨z, hz⟩ : ∃ z, x % 16 = z := ⟨_, rfl⟩
        have ey : (x : Int) / 16 = (y : Int) := by omega
        have ez : (x : Int) % 16 = (z : Int) := by omega
        have hy2 : y < 16 := by omega
        have hz2 : z < 16 := by omega
        have HX := Lib.hid (And.intro hx (And.intro hy hz))
        clear hc hb hf hx hy hz
        have hl2 : (Lib.byteCells (hexL (l.take k))).length = 2 * k := by rw [byteCells_len, hexL_len, List.length_take]; omega
        go_wp2_with fail
        refine (bld_WriteByte w.heap.size w.heap.size _ _ _ HK.out.1 (by omega) HK.out.2.size).mono ?_
        rintro e w1 ⟨rfl, hb1, hbel⟩
        rw [show ({ data := #[48, 49, 50, 51, 52, 53, 54, 55, 56, 57, 97, 98, 99, 100, 101, 102] } : ByteArray)[y] = hexD y from hexDs_get y hy2 hy2, byteCells_snoc] at hb1
        have H1 := Lib.hid (And.intro hb1 (HK.out.2.belowT hbel))
        clear hb1 hbel
        go_wp2_with fail
        refine (bld_WriteByte w.heap.size w.heap.size _ _ _ (.inr H1.out.1) (by rw [byteCells_len, List.length_append]; rw [byteCells_len] at hl2; simp; omega) H1.out.2.size).mono ?_
        rintro e w2 ⟨rfl, hb2, hbel⟩
        rw [show ({ data := #[48, 49, 50, 51, 52, 53, 54, 55, 56, 57, 97, 98, 99, 100, 101, 102] } : ByteArray)[z] = hexD z from hexDs_get z hz2 hz2, byteCells_snoc] at hb2
        have H2 := Lib.hid (And.intro hb2 (H1.out.2.belowT hbel))
        have HT : Hid (hexL (l.take k) ++ [hexD y] ++ [hexD z] = hexL (l.take (k + 1))) := Lib.hid (by
          obtain ⟨x1, x2, x3⟩ := HX.out
          rw [hexL_take l k hlt, x1, x2, x3])
        clear hb2 hbel hl2
        go_wp2
        go_roundw
        case rel => exact ⟨k + 1, by go_num, by omega, .inr (by rw [← HT.out]; exact H2.out.1), H2.out.2⟩
        case measure => simp [intOf]; omega
      · have hke : k = l.length := by omega
        have HL : Hid (Lib.IsBuilder 90 5 w.heap.size w.heap.size (Lib.byteCells (hexL l)) wr) := Lib.hid (by rw [hke, List.take_length] at hb; exact hb)
        clear hb hf
        go_wp2_with fail
        refine (Tryd.Builder_String_any w.heap.size w.heap.size _ _ HL.out HK.out.2.size).mono ?_
        rintro e w1 ⟨rfl, hbel⟩
        have H1 := Lib.hid (HK.out.2.belowT hbel)
        clear hbel
        go_wp2
        go_ret
        exact ⟨by rw [HM.out]; rfl, H1.out⟩
end Go.Proofs.YtodlbajpcbdbaaaDoor
namespace Go.Proofs.YtodlbajpcbdbaaaDoor
open Go.RowKit Go.Shelf
set_option linter.unusedVariables false
set_option linter.unusedSimpArgs false
set_option maxRecDepth 100000

def sv (x : List UInt8) : Value := .string ⟨x.toArray⟩
def strs (L : List (List UInt8)) : Array Value := (L.map sv).toArray
theorem strs_get {L : List (List UInt8)} {i : Nat} (h : i < L.length) : (strs L)[i]? = some (sv L[i]) := by simp [strs, h]
theorem bytes_inv (L : List ByteArray) : L.map Value.string = (L.map ByteArray.bytes).map sv := by
  rw [List.map_map]
  refine List.map_congr_left fun x _ => ?_
  show Value.string x = Value.string ⟨x.bytes.toArray⟩
  exact congrArg Value.string (ba_bytes (a := x) (b := ⟨x.bytes.toArray⟩) rfl)
theorem scr_split (w : World) (s : ByteArray) (c : UInt8) (hE : Env w) (hs : s.size < 4294967281) :
    Calls Tryd.prog 18 #[.string s, .string ⟨#[c]⟩] w fun e w' => e = .returned (.slice (some ⟨w.heap.size, 0, none⟩) (splitc c s.bytes).length (splitc c s.bytes).length) ∧ Blk w' w.heap.size (strs (splitc c s.bytes)) 9 ∧ Fr [] w w' := by
  obtain ⟨m, hm⟩ := hE.most
  have h := Tryd.strings_Split s ⟨#[c]⟩ m w hs hm (Nat.le_refl 1)
  have hb := splitB_c c s
  have hl : Lib.countB s ⟨#[c]⟩ + 1 = (splitc c s.bytes).length := by
    have := Lib.splitB_all ⟨#[c]⟩ (Nat.le_refl 1) 0 _ s rfl
    rw [← this]
    have h2 := congrArg List.length hb
    rw [List.length_map] at h2
    exact h2
  refine h.mono fun e w' ⟨he, hw⟩ => ⟨by rw [he, hl], ?_, ?_⟩
  · rw [hw, bytes_inv]
    have : (Lib.splitB ⟨#[c]⟩ 0 (Lib.countB s ⟨#[c]⟩) s).map ByteArray.bytes = splitc c s.bytes := hb
    rw [this]
    exact Blk.new _ _ _
  · rw [hw]; exact (Fr.refl _ _).alloc _
theorem Blk.off {w : World} {b B z n : Nat} {cs : Array Value} {t u : TypeId} {s : Sl} {xs : List Value} (h : Blk w b cs t) (ho : w.ownsRow B u z s.v n xs) (ne : t ≠ u) : b ∉ s.blk := fun hm => by
  obtain ⟨_, cs', e⟩ := own_blk ho b hm
  exact ne (Blk.ty h e)
abbrev SH := Int × List UInt8 × List UInt8
def shC (s : SH) : List Value := [.int .i64 s.1, sv s.2.1, sv s.2.2]
theorem shC_len (l : List SH) : (l.flatMap shC).length = l.length * 3 := by
  induction l with
  | nil => rfl
  | cons x r ih => rw [List.flatMap_cons, List.length_append, ih]; simp [shC]; omega

structure AddP (N A D : Nat) (l items : List SH) (ds : List Int) (WB k : Nat) (w wr : World) : Prop where
  b : Below N w wr
  sl : ∃ sl : Sl, Blk wr A #[.slice sl.A sl.n sl.c] 65 ∧ wr.ownsRow N 81 3 sl.v (l.length + k) ((l ++ items.take k).flatMap shC)
  d : Blk wr D (ds.map (Value.int .i64)).toArray 3
  wb : Blk wr WB (strs (items.map (·.2.1))) 9
set_option maxHeartbeats 4000000 in
theorem scr_add (w : World) (N A D : Nat) (sl : Sl) (l items : List SH) (ds : List Int) (has words : ByteArray) (hE : Env w) (hA : Blk w A #[.slice sl.A sl.n sl.c] 65) (hR : w.ownsRow N 81 3 sl.v l.length (l.flatMap shC))
    (hD : Blk w D (ds.map (Value.int .i64)).toArray 3) (hN : N ≤ A) (hw : splitc 32 words.bytes = items.map (·.2.1)) (hds : ds = items.map (·.1)) (hh : ∀ s ∈ items, s.2.2 = has.bytes) (hl : l.length + items.length ≤ 1000) (hs : words.size ≤ 1000) :
    Calls Tryd.prog 41 #[.string has, .string words, .slice (some ⟨D, 0, none⟩) ds.length ds.length, .pointer (some ⟨A, 0, none⟩)] w fun e w' => e = .returned (.tuple #[]) ∧ Below N w w' ∧ ∃ sl' : Sl, Blk w' A #[.slice sl'.A sl'.n sl'.c] 65 ∧ w'.ownsRow N 81 3 sl'.v (l.length + items.length) ((l ++ items).flatMap shC) := by
  obtain ⟨i0, hi0, hz0, hz1, hz2⟩ := info_parts (show (Tryd.prog.info? 81).map (fun i => (i.zero, i.size, i.bytes)) = some (some (.agg #[.int .i64 0, .string ⟨#[]⟩, .string ⟨#[]⟩]), 3, 40) by kernel_rfl)
  have hun : Tryd.prog.underlying 65 = some (.slice 81) := Tryd.underlying65
  have hsp := scr_split w words 32 hE (by omega)
  rw [hw, List.length_map] at hsp
  have HA := Lib.hid (And.intro hA (And.intro hR (And.intro hD (And.intro hN (And.intro hds hh)))))
  clear hA hR hD hw hds hh hE
  go_enter Tryd.func41, Tryd.ntmps41
  go_wp2_with fail
  refine hsp.mono ?_
  rintro e w1 ⟨rfl, hb1, f1⟩
  have HP0 : Hid (AddP N A D l items ds w.heap.size 0 w w1) := Lib.hid (by
    obtain ⟨hA, hR, hD, hN, hds, hh⟩ := HA.out
    exact ⟨f1.below (Nat.le_trans hN (Nat.le_of_lt hA.lt)) (by simp), ⟨sl, hA.fr f1 (by simp), by simpa using own_fr hR f1⟩, hD.fr f1 (by simp), hb1⟩)
  obtain ⟨WB, hWB⟩ : ∃ WB, w.heap.size = WB := ⟨_, rfl⟩
  rw [hWB] at HP0 ⊢
  clear hsp hb1 f1 hWB
  go_wp2
  go_loopw [12] (fun i wr => ∃ k : Nat, i = .int .i64 (k : Int) ∧ k ≤ items.length ∧ AddP N A D l items ds WB k w wr) (fun i _ => items.length - (intOf i).toNat)
  case atStart => exact ⟨0, rfl, by omega, HP0.out⟩
  case round =>
    obtain ⟨k, rfl, hk, hp⟩ := hrel
    have HP := Lib.hid hp
    by_cases hlt : k < items.length
    · have d1 : (k : Int) < (items.length : Int) := by omega
      obtain ⟨ss, hss⟩ : ∃ ss, items[k] = ss := ⟨_, rfl⟩
      have hc1 := hp.wb.cell k (strs_get (by simpa using hlt))
      simp only [List.getElem_map, hss, sv] at hc1
      have hds : ds[k]? = some ss.1 := by rw [HA.out.2.2.2.2.1, List.getElem?_map, List.getElem?_eq_getElem hlt, hss]; rfl
      have hkd : k < ds.length := (List.getElem?_eq_some_iff.1 hds).1
      have hc2 := hp.d.cell k (v := .int .i64 ss.1) (by simp [hds])
      obtain ⟨sl', hA', hR'⟩ := hp.sl
      have hc0 := hA'.cell 0 rfl
      simp only [List.getElem_toArray, List.getElem_cons_zero] at hc0
      have HSS := Lib.hid (And.intro hss (And.intro hA' hR'))
      have k0 : ∀ wx, Fr [] wr wx → wx.cell? ⟨A, 0, none⟩ = some (.slice sl'.A sl'.n sl'.c) ∧ wx.cell? ⟨D, k, none⟩ = some (.int .i64 ss.1) := fun wx hf => ⟨hf.cell hc0 (by simp), hf.cell hc2 (by simp)⟩
      clear hss hA' hR' hds hc0 hc2 hp
      go_wp2
      refine wp_region_keepsT [] [Is (.slice sl'.A sl'.n sl'.c), Is (.slice (some ⟨D, 0, none⟩) ds.length ds.length), Is (.int .i64 k), Is (.pointer (some ⟨D, k, none⟩)), Is (.int .i64 ss.1), Is (.string ⟨ss.2.1.toArray⟩), Is (.string has), Is (.agg #[.int .i64 ss.1, .string ⟨ss.2.1.toArray⟩, .string has]), IsSl [] #[.int .i64 ss.1, .string ⟨ss.2.1.toArray⟩, .string has] 81 1] 9 (by kernel_rfl) (by kernel_rfl) (by kernel_rfl) (by kernel_rfl) (by kernel_rfl) (by kernel_rfl) ?hV ?hS ?hD
      case hV =>
        repeat (first | exact trivial | exact Is.keeps _ | exact Any.keeps | exact IsSl.keeps _ _ _ | refine And.intro ?_ ?_)
      case hS =>
        (repeat' (first | exact trivial | refine And.intro ?_ ?_))
        all_goals (
          intro ac wx hf hs hp K hK
          simp only [zA, Region.binds, Nat.reduceAdd] at hp
          have e3 := hs 3 (by kernel_rfl)
          have e2 := hs 2 (by kernel_rfl)
          have e0 := hs 0 (by kernel_rfl)
          have e7 := hs 7 (by kernel_rfl)
          have e8 := hs 8 (by kernel_rfl)
          simp only [Array.getD_eq_getD_getElem?, List.getElem?_toArray, List.getElem?_cons_succ, List.getElem?_cons_zero, Option.getD_some] at e3 e2 e0 e7 e8
          clear hs
          obtain ⟨cx0, cx1⟩ := k0 wx hf
          clear hf
          (try simp only [hp])
          go_simp
          try dsimp only
          refine hK.out _ _ ?_ ?_
          · first | exact Fr.refl _ _ | exact (Fr.refl _ _).alloc _
          · simp only [nth]
            first | (unfold Is; rfl) | exact IsSl.new _ _ _ _)
      case hD =>
        intro xv wx hf hp
        simp only [List.take_succ_cons, List.take_zero, List.drop_succ_cons, List.drop_zero, fill, List.setIfInBounds_toArray, List.set_cons_zero, List.set_cons_succ, Nat.reduceAdd, Act.put]
        simp only [List.range_eq_range', List.range'_succ, List.range'_zero, Nat.zero_add, Nat.add_zero, Nat.reduceAdd, holds, nth, Is, Any, true_and, and_true] at hp
        obtain ⟨p0, p1, p2, p3, p4, p5, p6, p7, b, p8, hB, -⟩ := hp
        simp only [p0, p1, p2, p3, p4, p5, p6, p7, p8]
        obtain ⟨hsk, hA', hR'⟩ := HSS.out
        have hown := own_fr hR' hf
        have HB := Lib.hid (And.intro hB (And.intro (hA'.fr hf (by simp)) (And.intro hf hown)))
        have hNw : N ≤ wx.heap.size := Nat.le_trans HA.out.2.2.2.1 (Nat.le_trans (Nat.le_of_lt hA'.lt) hf.size)
        clear p0 p1 p2 p3 p4 p5 p6 p7 p8 hB hsk hA' hR' hf hown k0
        go_wp2_with (at_builtin; refine wpList_append_own _ rfl _ _ 65 rfl N 81 i0 (.agg #[.int .i64 0, .string ⟨#[]⟩, .string ⟨#[]⟩]) 3 40 hun hi0 hz0 hz1 hz2 rfl (by decide) _ _ _ rfl HB.out.2.2.2 ⟨b, 0, none⟩ 1 1 [.int .i64 ss.1, .string ⟨ss.2.1.toArray⟩, .string has] rfl rfl ?c1 ?c2 ?c4 ?c5 ?c6 ?_)
        case c1 => intro i u hu; match i, hu with
          | 0, hu => simp at hu; subst hu; (try rw [Go.WideShapes.add_plain]); exact HB.out.1.cell 0 rfl
          | 1, hu => simp at hu; subst hu; (try rw [Go.WideShapes.add_plain]); exact HB.out.1.cell 1 rfl
          | 2, hu => simp at hu; subst hu; (try rw [Go.WideShapes.add_plain]); exact HB.out.1.cell 2 rfl
          | i + 3, hu => simp at hu
        case c2 => intro u hu; simp at hu; rcases hu with rfl | rfl | rfl <;> rfl
        case c4 => unfold maxLen; omega
        case c5 => omega
        case c6 => exact hNw
        intro v' w4 hown4 hgrow _
        obtain ⟨sn, rfl⟩ := own_sl' hown4
        have f4 : Fr sl'.blk wx w4 := Fr.grownL hgrow
        obtain ⟨-, hA2, hfx, hown2⟩ := HB.out
        have hD2 := HP.out.d.fr hfx (by simp)
        have hW2 := HP.out.wb.fr hfx (by simp)
        have hA4 := hA2.fr f4 (hA2.off hown2 (by decide))
        have hD4 := hD2.fr f4 (hD2.off hown2 (by decide))
        have hW4 := hW2.fr f4 (hW2.off hown2 (by decide))
        have hc4 := hA4.cell 0 rfl
        have hz4 := hA4.free 0
        simp only [List.getElem_toArray, List.getElem_cons_zero] at hc4
        have f5 : Fr [A] w4 (w4.setCell ⟨A, 0, none⟩ (.slice sn.A sn.n sn.c)) := (Fr.refl [A] w4).setCell _ (.inl (by simp))
        have hb5 : Below N w (w4.setCell ⟨A, 0, none⟩ (.slice sn.A sn.n sn.c)) := by
          have b1 := HP.out.b
          have b2 : Below N wr wx := hfx.below (Nat.le_trans HA.out.2.2.2.1 (Nat.le_of_lt (HSS.out.2.1.lt))) (by simp)
          have b3 : Below N wx w4 := f4.below hNw (fun x hx => (own_blk hown2 x hx).1)
          have b4 : Below N w4 (w4.setCell ⟨A, 0, none⟩ (.slice sn.A sn.n sn.c)) := f5.below (Nat.le_trans hNw f4.size) (fun x hx => by simp at hx; subst hx; exact HA.out.2.2.2.1)
          exact ((b1.trans b2).trans b3).trans b4
        have hA5 : Blk (w4.setCell ⟨A, 0, none⟩ (.slice sn.A sn.n sn.c)) A #[.slice sn.A sn.n sn.c] 65 := hA4.set 0 _ rfl
        have hown5 : (w4.setCell ⟨A, 0, none⟩ (.slice sn.A sn.n sn.c)).ownsRow N 81 3 sn.v (l.length + (k + 1)) ((l ++ items.take (k + 1)).flatMap shC) := by
          have h1 := own_ofTy (u := 81) hown4 f5 (TyOut.cons hA4 (by decide) (TyOut.nil _ _))
          rw [List.take_succ_eq_append_getElem hlt, HSS.out.1, ← List.append_assoc, List.flatMap_append]
          have : has = ⟨ss.2.2.toArray⟩ := ba_bytes (HA.out.2.2.2.2.2 ss (HSS.out.1 ▸ List.getElem_mem hlt)).symm
          rw [this] at h1
          simpa [shC, sv, List.flatMap_cons, Nat.add_assoc] using h1
        have HN := Lib.hid (show AddP N A D l items ds WB (k + 1) w (w4.setCell ⟨A, 0, none⟩ (.slice sn.A sn.n sn.c)) from ⟨hb5, ⟨sn, hA5, hown5⟩, hD4.fr f5 (fun hm => by simp at hm; subst hm; exact absurd (Blk.ty hA4 hD4) (by decide)), hW4.fr f5 (fun hm => by simp at hm; subst hm; exact absurd (Blk.ty hA4 hW4) (by decide))⟩)
        clear hA2 hfx hown2 hD2 hW2 hA4 hD4 hW4 f5 hb5 hA5 hown5 hown4 hgrow f4
        go_wp2
        go_roundw
        case rel => exact ⟨k + 1, by go_num, by omega, HN.out⟩
        case measure => simp [intOf]; omega
    · have hke : k = items.length := by omega
      have HQ : Hid (∃ sl' : Sl, Blk wr A #[.slice sl'.A sl'.n sl'.c] 65 ∧ wr.ownsRow N 81 3 sl'.v (l.length + items.length) ((l ++ items).flatMap shC)) := Lib.hid (by
        have := hp.sl
        rwa [hke, List.take_length] at this)
      clear hp
      go_wp2
      go_end0
      exact ⟨rfl, HP.out.b, HQ.out⟩
end Go.Proofs.YtodlbajpcbdbaaaDoor
namespace Go.Proofs.YtodlbajpcbdbaaaDoor
open Go.RowKit Go.Shelf
set_option linter.unusedVariables false
set_option linter.unusedSimpArgs false
set_option maxRecDepth 100000

structure ShS (w0 : World) (A : Nat) (l : List SH) (w : World) : Prop where
  b : Below w0.heap.size w0 w
  sl : ∃ sl : Sl, Blk w A #[.slice sl.A sl.n sl.c] 65 ∧ w.ownsRow w0.heap.size 81 3 sl.v l.length (l.flatMap shC)
theorem scr_addS (w0 w : World) (A D : Nat) (hD : D = w.heap.size) (l items : List SH) (has words : ByteArray) (ds : List Int) (cs : Array Value) (n : Nat) (hE : Env w0) (h : ShS w0 A l w) (hA : w0.heap.size ≤ A) (hcs : cs = (ds.map (Value.int .i64)).toArray) (hw : splitc 32 words.bytes = items.map (·.2.1)) (hds : ds = items.map (·.1)) (hn : n = ds.length) (hh : ∀ s ∈ items, s.2.2 = has.bytes) (hl : l.length + items.length ≤ 1000) (hs : words.size ≤ 1000) :
    Calls Tryd.prog 41 #[.string has, .string words, .slice (some ⟨D, 0, none⟩) n n, .pointer (some ⟨A, 0, none⟩)] (w.alloc (.cells cs 3)) fun e w' => e = .returned (.tuple #[]) ∧ ShS w0 A (l ++ items) w' := by
  subst hcs hn hD
  obtain ⟨sl, hA1, hR⟩ := h.sl
  have fa : Fr [] w (w.alloc (.cells (ds.map (Value.int .i64)).toArray 3)) := (Fr.refl [] w).alloc _
  have b1 : Below w0.heap.size w0 (w.alloc (.cells (ds.map (Value.int .i64)).toArray 3)) := h.b.trans (fa.below h.b.size (by simp))
  refine (scr_add _ w0.heap.size A w.heap.size sl l items ds has words (hE.fr0 (Fr.of_below b1)) (hA1.fr fa (by simp)) (own_fr hR fa) (Blk.new _ _ _) hA hw hds hh hl hs).mono ?_
  rintro e w' ⟨rfl, hb, sl', h1, h2⟩
  exact ⟨rfl, b1.trans hb, sl', h1, by rw [List.length_append]; exact h2⟩
set_option maxHeartbeats 4000000 in
theorem scr_shapes (w : World) (hE : Env w) :
    Calls Tryd.prog 19 #[] w fun e w' => ∃ sl : Sl, e = .returned (.slice sl.A sl.n sl.c) ∧ w'.ownsRow w.heap.size 81 3 sl.v 25 (shapesM.flatMap shC) ∧ Fr [] w w' := by
  have h0 : ShS w w.heap.size [] (w.alloc (.cells #[.slice none 0 0] 65)) := ⟨((Fr.refl [] w).alloc _).below (Nat.le_refl _) (by simp), Sl.nil, Blk.new _ _ _, World.ownsRow_nil _ _ _ _⟩
  have H0 := Lib.hid h0
  clear h0
  go_enter Tryd.func19, Tryd.ntmps19
  go_wp2_with fail
  refine (scr_addS w _ w.heap.size _ (by simp) _ [(1, [111, 112, 101, 110], [102, 115, 110]), (23, [106, 111, 105, 110], [102, 115, 110]), (24, [108, 101, 97, 118, 101], [102, 115, 110])] _ _ [1, 23, 24] _ _ hE H0.out (Nat.le_refl _) rfl (by decide +kernel) rfl rfl (by decide +kernel) (by decide) (by decide)).mono ?_
  rintro e w1 ⟨rfl, hs⟩
  have H1 := Lib.hid hs
  clear hs
  go_wp2_with fail
  refine (scr_addS w _ w.heap.size _ (by simp) _ [(22, [115, 104, 117, 116], [102, 115])] _ _ [22] _ _ hE H1.out (Nat.le_refl _) rfl (by decide +kernel) rfl rfl (by decide +kernel) (by decide) (by decide)).mono ?_
  rintro e w2 ⟨rfl, hs⟩
  have H2 := Lib.hid hs
  clear hs
  go_wp2_with fail
  refine (scr_addS w _ w.heap.size _ (by simp) _ [(2, [117, 110, 105, 116], [102, 116, 115, 97, 98]), (4, [116, 101, 115, 116], [102, 116, 115, 97, 98]), (10, [115, 101, 110, 100], [102, 116, 115, 97, 98])] _ _ [2, 4, 10] _ _ hE H2.out (Nat.le_refl _) rfl (by decide +kernel) rfl rfl (by decide +kernel) (by decide) (by decide)).mono ?_
  rintro e w3 ⟨rfl, hs⟩
  have H3 := Lib.hid hs
  clear hs
  go_wp2_with fail
  refine (scr_addS w _ w.heap.size _ (by simp) _ [(3, [120, 105, 100], [102, 116, 115, 97]), (5, [99, 111, 110, 110, 101, 99, 116], [102, 116, 115, 97]), (6, [97, 99, 99, 101, 112, 116], [102, 116, 115, 97]), (7, [100, 105, 115, 99, 111, 110, 110, 101, 99, 116], [102, 116, 115, 97]), (8, [114, 101, 115, 101, 116], [102, 116, 115, 97]), (9, [114, 101, 115, 101, 116, 111, 107], [102, 116, 115, 97]), (11, [116, 97, 107, 101], [102, 116, 115, 97])] _ _ [3, 5, 6, 7, 8, 9, 11] _ _ hE H3.out (Nat.le_refl _) rfl (by decide +kernel) rfl rfl (by decide +kernel) (by decide) (by decide)).mono ?_
  rintro e w4 ⟨rfl, hs⟩
  have H4 := Lib.hid hs
  clear hs
  go_wp2_with fail
  refine (scr_addS w _ w.heap.size _ (by simp) _ [(12, [97, 115, 107], [102, 116, 115, 97, 112, 98])] _ _ [12] _ _ hE H4.out (Nat.le_refl _) rfl (by decide +kernel) rfl rfl (by decide +kernel) (by decide) (by decide)).mono ?_
  rintro e w5 ⟨rfl, hs⟩
  have H5 := Lib.hid hs
  clear hs
  go_wp2_with fail
  refine (scr_addS w _ w.heap.size _ (by simp) _ [(13, [114, 101, 112, 108, 121], [102, 115, 98])] _ _ [13] _ _ hE H5.out (Nat.le_refl _) rfl (by decide +kernel) rfl rfl (by decide +kernel) (by decide) (by decide)).mono ?_
  rintro e w6 ⟨rfl, hs⟩
  have H6 := Lib.hid hs
  clear hs
  go_wp2_with fail
  refine (scr_addS w _ w.heap.size _ (by simp) _ [(14, [112, 97, 115, 115], [102, 116]), (15, [100, 114, 111, 112], [102, 116]), (16, [116, 119, 105, 99, 101], [102, 116])] _ _ [14, 15, 16] _ _ hE H6.out (Nat.le_refl _) rfl (by decide +kernel) rfl rfl (by decide +kernel) (by decide) (by decide)).mono ?_
  rintro e w7 ⟨rfl, hs⟩
  have H7 := Lib.hid hs
  clear hs
  go_wp2_with fail
  refine (scr_addS w _ w.heap.size _ (by simp) _ [(17, [115, 112, 111, 105, 108], [102, 116, 110])] _ _ [17] _ _ hE H7.out (Nat.le_refl _) rfl (by decide +kernel) rfl rfl (by decide +kernel) (by decide) (by decide)).mono ?_
  rintro e w8 ⟨rfl, hs⟩
  have H8 := Lib.hid hs
  clear hs
  go_wp2_with fail
  refine (scr_addS w _ w.heap.size _ (by simp) _ [(18, [105, 110, 106, 101, 99, 116], [102, 116, 98])] _ _ [18] _ _ hE H8.out (Nat.le_refl _) rfl (by decide +kernel) rfl rfl (by decide +kernel) (by decide) (by decide)).mono ?_
  rintro e w9 ⟨rfl, hs⟩
  have H9 := Lib.hid hs
  clear hs
  go_wp2_with fail
  refine (scr_addS w _ w.heap.size _ (by simp) _ [(19, [116, 105, 99, 107], [102]), (21, [114, 101, 115, 116, 97, 114, 116], [102]), (25, [116, 119, 105, 110, 99, 104, 101, 99, 107], [102])] _ _ [19, 21, 25] _ _ hE H9.out (Nat.le_refl _) rfl (by decide +kernel) rfl rfl (by decide +kernel) (by decide) (by decide)).mono ?_
  rintro e w10 ⟨rfl, hs⟩
  have H10 := Lib.hid hs
  clear hs
  go_wp2_with fail
  refine (scr_addS w _ w.heap.size _ (by simp) _ [(20, [111, 108, 100, 101, 114], [])] _ _ [20] _ _ hE H10.out (Nat.le_refl _) rfl (by decide +kernel) rfl rfl (by decide +kernel) (by decide) (by decide)).mono ?_
  rintro e w11 ⟨rfl, hs⟩
  have H11 := Lib.hid hs
  clear hs
  obtain ⟨sl, hA, hR⟩ := H11.out.sl
  have hc := hA.cell 0 rfl
  simp only [List.getElem_toArray, List.getElem_cons_zero] at hc
  have HR := Lib.hid (And.intro hR H11.out.b)
  clear hA hR
  go_wp2
  go_ret
  exact ⟨sl, rfl, HR.out.1, Fr.of_below HR.out.2⟩
end Go.Proofs.YtodlbajpcbdbaaaDoor
namespace Go.Proofs.YtodlbajpcbdbaaaDoor
open Go.RowKit Go.Shelf
set_option linter.unusedVariables false
set_option linter.unusedSimpArgs false
set_option maxRecDepth 100000

def numPs (C : Nat) : Array Value := #[.pointer (some ⟨C, 0, none⟩), .pointer (some ⟨C, 1, none⟩), .pointer (some ⟨C, 2, none⟩), .pointer (some ⟨C, 3, none⟩), .pointer (some ⟨C, 4, none⟩), .pointer (some ⟨C, 5, none⟩), .pointer (some ⟨C, 6, none⟩), .pointer (some ⟨C, 7, none⟩), .pointer (some ⟨C, 8, none⟩), .pointer (some ⟨C, 9, none⟩), .pointer (some ⟨C, 10, none⟩), .pointer (some ⟨C, 11, none⟩), .pointer (some ⟨C, 12, none⟩), .pointer (some ⟨C, 13, none⟩), .pointer (some ⟨C, 14, none⟩), .pointer (some ⟨C, 15, none⟩), .pointer (some ⟨C, 16, none⟩)]
set_option maxRecDepth 100000 in
set_option maxHeartbeats 8000000 in
theorem scr_numbers (w : World) (C : Nat) (hC : C < w.heap.size) :
    Calls Tryd.prog 27 #[.pointer (some ⟨C, 0, none⟩)] w fun e w' => ∃ B, e = .returned (.slice (some ⟨B, 0, none⟩) 17 17) ∧ Blk w' B (numPs C) 86 ∧ Fr [] w w' := by
  go_enter Tryd.func27, Tryd.ntmps27
  go_wp2
  refine wp_region_keepsT [] [Is (.pointer (some ⟨C, 0, none⟩)), Is (.pointer (some ⟨C, 0, none⟩)), Is (.pointer (some ⟨C, 0, none⟩)), Is (.pointer (some ⟨C, 0, none⟩)), Is (.pointer (some ⟨C, 0, none⟩)), Is (.pointer (some ⟨C, 1, none⟩)), Is (.pointer (some ⟨C, 0, none⟩)), Is (.pointer (some ⟨C, 0, none⟩)), Is (.pointer (some ⟨C, 2, none⟩)), Is (.pointer (some ⟨C, 0, none⟩)), Is (.pointer (some ⟨C, 0, none⟩)), Is (.pointer (some ⟨C, 3, none⟩)), Is (.pointer (some ⟨C, 4, none⟩)), Is (.pointer (some ⟨C, 4, none⟩)), Is (.pointer (some ⟨C, 4, none⟩)), Is (.pointer (some ⟨C, 4, none⟩)), Is (.pointer (some ⟨C, 4, none⟩)), Is (.pointer (some ⟨C, 4, none⟩)), Is (.pointer (some ⟨C, 4, none⟩)), Is (.pointer (some ⟨C, 5, none⟩)), Is (.pointer (some ⟨C, 4, none⟩)), Is (.pointer (some ⟨C, 4, none⟩)), Is (.pointer (some ⟨C, 4, none⟩)), Is (.pointer (some ⟨C, 6, none⟩)), Is (.pointer (some ⟨C, 4, none⟩)), Is (.pointer (some ⟨C, 4, none⟩)), Is (.pointer (some ⟨C, 4, none⟩)), Is (.pointer (some ⟨C, 7, none⟩)), Is (.pointer (some ⟨C, 4, none⟩)), Is (.pointer (some ⟨C, 4, none⟩)), Is (.pointer (some ⟨C, 4, none⟩)), Is (.pointer (some ⟨C, 8, none⟩)), Is (.pointer (some ⟨C, 4, none⟩)), Is (.pointer (some ⟨C, 4, none⟩)), Is (.pointer (some ⟨C, 4, none⟩)), Is (.pointer (some ⟨C, 9, none⟩)), Is (.pointer (some ⟨C, 4, none⟩)), Is (.pointer (some ⟨C, 4, none⟩)), Is (.pointer (some ⟨C, 10, none⟩)), Is (.pointer (some ⟨C, 10, none⟩)), Is (.pointer (some ⟨C, 4, none⟩)), Is (.pointer (some ⟨C, 4, none⟩)), Is (.pointer (some ⟨C, 10, none⟩)), Is (.pointer (some ⟨C, 11, none⟩)), Is (.pointer (some ⟨C, 4, none⟩)), Is (.pointer (some ⟨C, 4, none⟩)), Is (.pointer (some ⟨C, 10, none⟩)), Is (.pointer (some ⟨C, 12, none⟩)), Is (.pointer (some ⟨C, 4, none⟩)), Is (.pointer (some ⟨C, 4, none⟩)), Is (.pointer (some ⟨C, 13, none⟩)), Is (.pointer (some ⟨C, 4, none⟩)), Is (.pointer (some ⟨C, 4, none⟩)), Is (.pointer (some ⟨C, 14, none⟩)), Is (.pointer (some ⟨C, 4, none⟩)), Is (.pointer (some ⟨C, 4, none⟩)), Is (.pointer (some ⟨C, 15, none⟩)), Is (.pointer (some ⟨C, 4, none⟩)), Is (.pointer (some ⟨C, 4, none⟩)), Is (.pointer (some ⟨C, 16, none⟩)), IsSl [] #[.pointer (some ⟨C, 0, none⟩), .pointer (some ⟨C, 1, none⟩), .pointer (some ⟨C, 2, none⟩), .pointer (some ⟨C, 3, none⟩), .pointer (some ⟨C, 4, none⟩), .pointer (some ⟨C, 5, none⟩), .pointer (some ⟨C, 6, none⟩), .pointer (some ⟨C, 7, none⟩), .pointer (some ⟨C, 8, none⟩), .pointer (some ⟨C, 9, none⟩), .pointer (some ⟨C, 10, none⟩), .pointer (some ⟨C, 11, none⟩), .pointer (some ⟨C, 12, none⟩), .pointer (some ⟨C, 13, none⟩), .pointer (some ⟨C, 14, none⟩), .pointer (some ⟨C, 15, none⟩), .pointer (some ⟨C, 16, none⟩)] 86 17] 61 (by kernel_rfl) (by kernel_rfl) (by kernel_rfl) (by kernel_rfl) (by kernel_rfl) (by kernel_rfl) ?hV ?hS ?hD
  case hV =>
    repeat (first | exact trivial | exact Is.keeps _ | exact Any.keeps | exact IsSl.keeps _ _ _ | refine And.intro ?_ ?_)
  case hS =>
    (repeat' (first | exact trivial | refine And.intro ?_ ?_))
    all_goals (
      intro ac wx hf hs hp K hK
      simp only [zA, Region.binds, Nat.reduceAdd] at hp
      have e0 := hs 0 (by kernel_rfl)
      have e3 := hs 3 (by kernel_rfl)
      simp only [Array.getD_eq_getD_getElem?, List.getElem?_toArray, List.getElem?_cons_succ, List.getElem?_cons_zero, Option.getD_some] at e0 e3
      clear hs
      clear hf
      (try simp only [hp])
      go_simp
      try dsimp only
      first | (refine hK.out _ _ ?_ ?_; (first | exact Fr.refl _ _ | exact (Fr.refl _ _).alloc _); (simp only [nth]; (first | (unfold Is; rfl) | (unfold Any; exact trivial) | exact IsSl.new _ _ _ _))))
  case hD =>
    intro xv wx hf hp
    simp only [List.take_succ_cons, List.take_zero, List.drop_succ_cons, List.drop_zero, fill, List.setIfInBounds_toArray, List.set_cons_zero, List.set_cons_succ, Nat.reduceAdd, Act.put]
    simp only [List.range_eq_range', List.range'_succ, List.range'_zero, Nat.zero_add, Nat.add_zero, Nat.reduceAdd, holds, nth, Is, Any, true_and, and_true] at hp
    obtain ⟨-, -, -, -, -, -, -, -, -, -, -, -, -, -, -, -, -, -, -, -, -, -, -, -, -, -, -, -, -, -, -, -, -, -, -, -, -, -, -, -, -, -, -, -, -, -, -, -, -, -, -, -, -, -, -, -, -, -, -, -, b, p8, hB, -⟩ := hp
    simp only [p8]
    have HB := Lib.hid (And.intro hB hf)
    clear hB hf p8
    go_wp2
    go_ret
    exact ⟨b, rfl, HB.out.1, HB.out.2⟩
end Go.Proofs.YtodlbajpcbdbaaaDoor
namespace Go.Proofs.YtodlbajpcbdbaaaDoor
open Go.RowKit Go.Shelf
set_option linter.unusedVariables false
set_option linter.unusedSimpArgs false
set_option maxRecDepth 100000

theorem sv_ex (x : List UInt8) : ∃ s : ByteArray, s.bytes = x ∧ sv x = .string s := ⟨⟨x.toArray⟩, rfl, rfl⟩
theorem Blk.setRow {w : World} {b : Nat} {old cs : Array Value} {t : TypeId} (h : Blk w b old t) : Blk (w.setRow b cs) b cs t := setRow_heap w b old cs t (0, 0) h
theorem Fr.setRow {L : List Nat} {a w : World} (h : Fr L a w) {b : Nat} (cs : Array Value) (hb : b ∈ L ∨ a.heap.size ≤ b) : Fr L a (w.setRow b cs) :=
  h.trans (M := [b]) ⟨rfl, rfl, rfl, by simp [World.setRow], fun k _ hn => by
    have : k ≠ b := by simpa using hn
    simp only [World.setRow, Array.getElem?_modify]
    rw [if_neg (fun e => this e.symm)]⟩ (fun x hx => by simp at hx; subst hx; exact hb)
theorem results_cell_tmp {P : Program} {fn : Func} {p q : Tmp} {ty : TypeId} (h : fn.results = #[.cell p ty, .tmp q]) (tmps : Array Value) (w : World) (g : Nat) (t : TypeId) (cs : Array Value) (fr : Nat × Nat) (d : TypeDesc) (v : Value)
    (hp : tmps.getD p undef = .pointer (some ⟨g, 0, none⟩)) (hq : tmps.getD q undef = v) (hg : w.heap[g]? = some (.cells cs t fr))
    (hu : P.underlying ty = some d) (hd : (match d with | .struct _ | .array _ _ => true | _ => false) = true) (hi : (P.info? ty).map (·.size) = some cs.size) :
    (results fn tmps).run P w = .ok (.tuple #[.agg cs, v]) w := by
  have hp' : tmps[p]?.getD undef = .pointer (some ⟨g, 0, none⟩) := by simpa using hp
  have hq' : tmps[q]?.getD undef = v := by simpa using hq
  simp [results, h, hp', hq', asAddr, run_loadVar_row w g t ty cs fr d hg hu hd hi]
theorem Fr.tr' {L : List Nat} {a b c : World} (h : Fr [] a b) (k : Fr L b c) (hL : ∀ x ∈ L, a.heap.size ≤ x) : Fr [] a c := h.trans k (fun x hx => .inr (hL x hx))
def intsV (l : List Int) : Array Value := (l.map (Value.int .i64)).toArray
def zeros17 : List Int := [0, 0, 0, 0, 0, 0, 0, 0, 0, 0, 0, 0, 0, 0, 0, 0, 0]
theorem intsV_one (l : List Int) : (intsV l).all (·.oneCell') = true := by
  rw [Array.all_eq_true_iff_forall_mem]
  intro x hx
  simp [intsV] at hx
  obtain ⟨n, _, rfl⟩ := hx
  rfl
/-- What a configuration's line says. -/
def configM (ws : List (List UInt8)) : Option (List Int) := if ws.headD [] = [110, 101, 116] ∧ ws.length = 18 then ws.tail.mapM numM else none
def NumP (l : List UInt8) (e : Ending) : Prop := ∃ n, e = .returned (.tuple #[.int .i64 n, .bool (numM l).isSome]) ∧ ∀ m, numM l = some m → n = m
theorem scr_number (w : World) (s : ByteArray) (hE : Env w) (hs : s.size ≤ 281474976710656) : Calls Tryd.prog 42 #[.string s] w fun e w' => NumP s.bytes e ∧ Fr [] w w' := by
  cases h : numM s.bytes with
  | some n => exact (scr_number_ok w s n hE hs h).mono fun e w' ⟨he, hf⟩ => ⟨⟨n, by rw [he, h]; rfl, fun m hm => by rw [h] at hm; cases hm; rfl⟩, hf⟩
  | none => exact (scr_number_no w s hE hs h).mono fun e w' ⟨⟨n, he⟩, hf⟩ => ⟨⟨n, by rw [he, h]; rfl, fun m hm => by rw [h] at hm; cases hm⟩, hf⟩
theorem mapM_snoc {f : List UInt8 → Option Int} {l : List (List UInt8)} {xs : List Int} {x : List UInt8} {y : Int} (h : l.mapM f = some xs) (hx : f x = some y) : (l ++ [x]).mapM f = some (xs ++ [y]) := by
  simp [List.mapM_append, h, hx]
theorem mapM_bad {f : List UInt8 → Option Int} : ∀ {l : List (List UInt8)} {x : List UInt8}, x ∈ l → f x = none → l.mapM f = none
  | y :: r, x, hm, hx => by
    rw [List.mapM_cons]
    rcases List.mem_cons.1 hm with rfl | hm
    · rw [hx]; rfl
    · rw [mapM_bad hm hx]
      cases f y <;> rfl
theorem intsV_set (l : List Int) (k : Nat) (n : Int) : (intsV l).setIfInBounds k (.int .i64 n) = intsV (l.set k n) := by
  apply Array.ext'
  simp [intsV, List.map_set]
theorem set_rep (xs : List Int) (k : Nat) (n : Int) (h : xs.length = k) (hk : k < 17) : (xs ++ List.replicate (17 - k) 0).set k n = (xs ++ [n]) ++ List.replicate (17 - (k + 1)) 0 := by
  rw [show 17 - k = (17 - (k + 1)) + 1 by omega, List.replicate_succ, List.set_append_right _ _ (by omega), h, Nat.sub_self, List.set_cons_zero, List.append_assoc]
  rfl
theorem numPs_get (C k : Nat) (h : k < 17) : (numPs C)[k]? = some (.pointer (some ⟨C, k, none⟩)) := by
  have : k = 0 ∨ k = 1 ∨ k = 2 ∨ k = 3 ∨ k = 4 ∨ k = 5 ∨ k = 6 ∨ k = 7 ∨ k = 8 ∨ k = 9 ∨ k = 10 ∨ k = 11 ∨ k = 12 ∨ k = 13 ∨ k = 14 ∨ k = 15 ∨ k = 16 := by omega
  rcases this with rfl | rfl | rfl | rfl | rfl | rfl | rfl | rfl | rfl | rfl | rfl | rfl | rfl | rfl | rfl | rfl | rfl <;> rfl
/-- Behind k numbers. -/
structure CfgAt (w : World) (ws : List (List UInt8)) (R B : Nat) (k : Nat) (xs : List Int) (b : Bool) (wr : World) : Prop where
  len : xs.length = k
  c : Blk wr (R + 1) (intsV (xs ++ List.replicate (17 - k) 0)) 30
  r : Blk wr R (intsV zeros17) 30
  ps : Blk wr B (numPs (R + 1)) 86
  f : Fr [] w wr
  yes : b = true → (ws.tail.take k).mapM numM = some xs
  no : b = false → configM ws = none
def CfgPost (w : World) (ws : List (List UInt8)) (e : Ending) (w' : World) : Prop := Fr [] w w' ∧ match configM ws with
  | some l => l.length = 17 ∧ e = .returned (.tuple #[.agg (intsV l), .bool true])
  | none => ∃ l : List Int, l.length = 17 ∧ e = .returned (.tuple #[.agg (intsV l), .bool false])
set_option maxRecDepth 100000 in
set_option maxHeartbeats 4000000 in
theorem scr_config (w : World) (WB : Nat) (ws : List (List UInt8)) (hE : Env w) (hW : Blk w WB (strs ws) 9) (hne : 0 < ws.length) (hl : ws.length ≤ 1000000) (hs : ∀ x ∈ ws, x.length ≤ 1000000) :
    Calls Tryd.prog 20 #[.slice (some ⟨WB, 0, none⟩) ws.length ws.length] w (CfgPost w ws) := by
  obtain ⟨s0, hs0, hv0⟩ := sv_ex ws[0]
  have hc := hW.cell 0 (strs_get hne)
  rw [hv0] at hc
  have hd : ws.headD [] = ws[0] := by cases ws with | nil => simp at hne | cons a b => rfl
  have hb1 : Blk ((w.alloc (.cells (intsV zeros17) 30)).alloc (.cells (intsV zeros17) 30)) w.heap.size (intsV zeros17) 30 := (Blk.new w (intsV zeros17) 30).alloc _
  have hb2 : Blk ((w.alloc (.cells (intsV zeros17) 30)).alloc (.cells (intsV zeros17) 30)) (w.heap.size + 1) (intsV zeros17) 30 := by
    have := Blk.new (w.alloc (.cells (intsV zeros17) 30)) (intsV zeros17) 30
    simpa using this
  have f1 : Fr [] w ((w.alloc (.cells (intsV zeros17) 30)).alloc (.cells (intsV zeros17) 30)) := ((Fr.refl [] w).alloc _).alloc _
  have H1 := Lib.hid (And.intro hb1 (And.intro hb2 f1))
  have hnum := scr_numbers _ (w.heap.size + 1) hb2.lt
  have HE := Lib.hid (And.intro hE (And.intro hW (And.intro hs (And.intro hd hs0))))
  clear hE hW hs hd hs0 hb1 hb2 f1 hv0
  go_enter Tryd.func20, Tryd.ntmps20
  go_wp2_with fail
  refine hnum.mono ?_
  rintro e w2 ⟨B, rfl, hB, f2⟩
  have HB : Hid (Blk w2 w.heap.size (intsV zeros17) 30 ∧ Blk w2 (w.heap.size + 1) (intsV zeros17) 30 ∧ Blk w2 B (numPs (w.heap.size + 1)) 86 ∧ Fr [] w w2) := Lib.hid ⟨H1.out.1.fr f2 (by simp), H1.out.2.1.fr f2 (by simp), hB, H1.out.2.2.tr f2⟩
  have hc2 := HB.out.2.2.2.cell hc (by simp)
  obtain ⟨R, hR⟩ : ∃ R, w.heap.size = R := ⟨_, rfl⟩
  rw [hR] at HB ⊢
  have hRw := Lib.hid hR
  clear hnum H1 hB f2 hc hR
  by_cases h1 : s0.bytes = [110, 101, 116]
  · have q1 : (s0.toList == [110, 101, 116]) = true := by rw [ByteArray.toList_eq]; exact beq_iff_eq.2 h1
    have q1n : (s0.toList != [110, 101, 116]) = false := by rw [ByteArray.toList_eq, bne_eq_false_iff_eq]; exact h1
    by_cases h2 : ws.length = 18
    · have hn0 : ((ws.length : Int) == 18) = true := by rw [beq_iff_eq]; omega
      have hn1 : ((ws.length : Int) != 18) = false := by rw [bne_eq_false_iff_eq]; omega
      have HM : Hid (ws.length = 18 ∧ configM ws = ws.tail.mapM numM) := Lib.hid ⟨h2, by unfold configM; rw [if_pos ⟨by rw [HE.out.2.2.2.1, ← HE.out.2.2.2.2]; exact h1, h2⟩]⟩
      have H0 : Hid (CfgAt w ws R B 0 [] true w2) := Lib.hid ⟨rfl, HB.out.2.1, HB.out.1, HB.out.2.2.1, HB.out.2.2.2, fun _ => rfl, fun h => by cases h⟩
      clear h1 h2
      go_wp2
      clear hn0 hn1 q1 q1n hc2
      go_loopw [6, 27] (fun okv i wr => ∃ (k : Nat) (xs : List Int) (b : Bool), okv = .bool b ∧ i = .int .i64 (k : Int) ∧ k ≤ 17 ∧ CfgAt w ws R B k xs b wr) (fun _ i _ => 17 - (intOf i).toNat)
      case atStart => exact ⟨0, [], true, rfl, rfl, by omega, H0.out⟩
      case round =>
        obtain ⟨k, xs, b, rfl, rfl, hk, hq⟩ := hrel
        have HQ := Lib.hid hq
        by_cases hlt : k < 17
        · have d1 : (k : Int) < 17 := by omega
          have hkw : 1 + k < ws.length := by have := HM.out.1; omega
          obtain ⟨s, hs, hv⟩ := sv_ex ws[1 + k]
          have hcp := hq.ps.cell k (numPs_get _ k hlt)
          have hcw := (HE.out.2.1.fr hq.f (by simp)).cell (1 + k) (strs_get hkw)
          rw [hv] at hcw
          obtain ⟨j, hj⟩ : ∃ j, 1 + k = j := ⟨_, rfl⟩
          have ww : IntKind.i64.wrap (1 + (k : Int)) = (j : Int) := by rw [IntWalk.i64_in _ (by omega)]; omega
          rw [hj] at hcw
          have hj2 : j < ws.length := by omega
          have HS := Lib.hid (And.intro hs hj)
          clear hq hs hv hj
          go_wp2_with fail
          refine (scr_number _ s (HE.out.1.fr0 HQ.out.f) (by have h1 := HE.out.2.2.1 ws[1 + k] (List.getElem_mem _); rw [← HS.out.1] at h1; have : s.bytes.length = s.size := rfl; omega)).mono ?_
          rintro e w4 ⟨⟨n, rfl, hnm⟩, f4⟩
          have hc4 := HQ.out.c.fr f4 (by simp)
          have hcc := hc4.cell k (v := .int .i64 0) (by
            simp only [intsV, List.getElem?_toArray, List.getElem?_map]
            rw [List.getElem?_append_right (by rw [HQ.out.len]; omega), HQ.out.len, Nat.sub_self, List.getElem?_replicate, if_pos (by omega)]
            rfl)
          have hzz := hc4.free k
          have hset := hc4.set k (.int .i64 n) rfl
          rw [intsV_set, set_rep xs k n HQ.out.len hlt] at hset
          have fset : Fr [R + 1] w4 (w4.setCell ⟨R + 1, k, none⟩ (.int .i64 n)) := (Fr.refl [R + 1] w4).setCell _ (.inl (by simp))
          have HX : Hid (∀ b', (b' = true → b = true ∧ (numM s.bytes).isSome = true) → (b' = false → b = false ∨ (numM s.bytes).isSome = false) → CfgAt w ws R B (k + 1) (xs ++ [n]) b' (w4.setCell ⟨R + 1, k, none⟩ (.int .i64 n))) := Lib.hid (fun b' h1 h2 => by
            have hx : ws.tail.take (k + 1) = ws.tail.take k ++ [s.bytes] := by
              rw [List.take_succ_eq_append_getElem (by rw [List.length_tail]; omega), List.getElem_tail, HS.out.1]
              congr 3; omega
            refine ⟨by simp [HQ.out.len], hset, (HQ.out.r.fr f4 (by simp)).fr fset (by simp), (HQ.out.ps.fr f4 (by simp)).fr fset (fun hm => ?_), ((HQ.out.f.tr f4).tr' fset (by have := hRw.out; simp; omega)), fun e => ?_, fun e => ?_⟩
            · simp at hm; subst hm; exact absurd (Blk.ty hc4 (HQ.out.ps.fr f4 (by simp))) (by decide)
            · obtain ⟨e1, e2⟩ := h1 e
              obtain ⟨m, hm⟩ := Option.isSome_iff_exists.1 e2
              rw [hx]
              exact mapM_snoc (HQ.out.yes e1) (by rw [hm, hnm m hm])
            · rcases h2 e with e1 | e1
              · exact HQ.out.no e1
              · rw [HM.out.2]
                refine mapM_bad (x := s.bytes) ?_ (by simpa using e1)
                refine List.mem_of_mem_take (i := k + 1) ?_
                rw [hx]; simp)
          clear hc4 hset fset f4 hnm hcp hcw
          generalize (numM s.bytes).isSome = o at HX ⊢
          have wk : IntKind.i64.wrap ((k : Int) + 1) = (k : Int) + 1 := IntWalk.i64_in _ (by omega)
          cases b
          · go_wp2
            go_roundw
            case rel => exact ⟨k + 1, _, false, rfl, by go_num, by omega, HX.out false (by simp) (by simp)⟩
            case measure => simp [intOf]; omega
          · go_wp2
            go_roundw
            case rel => exact ⟨k + 1, _, o, rfl, by go_num, by omega, HX.out o (by simp) (by simp)⟩
            case measure => simp [intOf]; omega
        · have hke : k = 17 := by omega
          subst hke
          have hcx := hq.c
          rw [Nat.sub_self, List.replicate_zero, List.append_nil] at hcx
          have HC := Lib.hid hcx
          clear hq hcx
          go_wp2_with (first | (refine wpList_load_row rfl 30 (.tmp 4) rfl (R + 1) rfl 30 (intsV xs) (0, 0) _ HC.out Tryd.underlying30 rfl (by rw [show (intsV xs).size = 17 by simp [intsV, HQ.out.len]]; kernel_rfl) ?_) | (refine wpList_store_row rfl 30 (.tmp 2) (.tmp 49) rfl R (intsV xs) rfl rfl 30 (intsV zeros17) HQ.out.r (by rw [show (intsV xs).size = 17 by simp [intsV, HQ.out.len]]; kernel_rfl) (by rw [show (intsV xs).size = 17 by simp [intsV, HQ.out.len]]; rfl) (intsV_one _) ?_))
          refine bodyPost_ret (v := .tuple #[.agg (intsV xs), .bool b]) (results_cell_tmp Tryd.results20 _ _ R _ _ _ _ _ rfl rfl HQ.out.r.setRow Tryd.underlying30 rfl (by rw [show (intsV xs).size = 17 by simp [intsV, HQ.out.len]]; kernel_rfl)) rfl ⟨?_, ?_⟩
          · exact HQ.out.f.setRow _ (.inr (by have := hRw.out; omega))
          · cases b with
            | true =>
              have h1 := HQ.out.yes rfl
              rw [List.take_of_length_le (by rw [List.length_tail]; have := HM.out.1; omega), ← HM.out.2] at h1
              rw [h1]
              exact ⟨HQ.out.len, rfl⟩
            | false =>
              rw [HQ.out.no rfl]
              exact ⟨xs, HQ.out.len, rfl⟩
    · have hn0 : ((ws.length : Int) == 18) = false := by rw [beq_eq_false_iff_ne]; omega
      have hn1 : ((ws.length : Int) != 18) = true := by rw [bne_iff_ne]; omega
      have HC : Hid (configM ws = none) := Lib.hid (by unfold configM; rw [if_neg]; intro h; exact h2 h.2)
      clear h1 h2
      go_wp2_with (refine wpList_store_row rfl 30 (.tmp 2) (.tmp 24) rfl R (intsV zeros17) rfl rfl 30 (intsV zeros17) HB.out.1 (by kernel_rfl) rfl (intsV_one _) ?_)
      refine bodyPost_ret (v := .tuple #[.agg (intsV zeros17), .bool false]) (results_cell_tmp Tryd.results20 _ _ R _ _ _ _ _ rfl rfl HB.out.1.setRow Tryd.underlying30 rfl (by kernel_rfl)) rfl ⟨?_, ?_⟩
      · exact HB.out.2.2.2.setRow _ (.inr (by have := hRw.out; omega))
      · rw [HC.out]; exact ⟨zeros17, rfl, rfl⟩
  · have q1 : (s0.toList == [110, 101, 116]) = false := by rw [ByteArray.toList_eq, beq_eq_false_iff_ne]; exact h1
    have q1n : (s0.toList != [110, 101, 116]) = true := by rw [ByteArray.toList_eq, bne_iff_ne]; exact h1
    have HC : Hid (configM ws = none) := Lib.hid (by unfold configM; rw [if_neg]; intro h; rw [HE.out.2.2.2.1, ← HE.out.2.2.2.2] at h; exact h1 h.1)
    clear h1
    go_wp2_with (refine wpList_store_row rfl 30 (.tmp 2) (.tmp 24) rfl R (intsV zeros17) rfl rfl 30 (intsV zeros17) HB.out.1 (by kernel_rfl) rfl (intsV_one _) ?_)
    refine bodyPost_ret (v := .tuple #[.agg (intsV zeros17), .bool false]) (results_cell_tmp Tryd.results20 _ _ R _ _ _ _ _ rfl rfl HB.out.1.setRow Tryd.underlying30 rfl (by kernel_rfl)) rfl ⟨?_, ?_⟩
    · exact HB.out.2.2.2.setRow _ (.inr (by have := hRw.out; omega))
    · rw [HC.out]; exact ⟨zeros17, rfl, rfl⟩
end Go.Proofs.YtodlbajpcbdbaaaDoor
namespace Go.Proofs.YtodlbajpcbdbaaaDoor
open Go.RowKit
set_option linter.unusedVariables false
set_option linter.unusedSimpArgs false
set_option maxRecDepth 100000

/-- A pointer that this operation, one of Fs, makes: not below block n. -/
def NewP (Fs : List Nat) (i n : Nat) (v : Value) : Prop := Fs.contains i = true → ∀ b, v = .pointer (some ⟨b, 0, none⟩) → n ≤ b
def OldP (w : World) (v : Value) : Prop := ∀ b, v = .pointer (some ⟨b, 0, none⟩) → b < w.heap.size
def AptP (Fs : List Nat) (n : Nat) (x : Nat → Value) : Prop := ∀ i j, i < n → j < n → i ≠ j → Fs.contains i = true → Fs.contains j = true → ∀ b c, x i = .pointer (some ⟨b, 0, none⟩) → x j = .pointer (some ⟨c, 0, none⟩) → b ≠ c

def parStepsF (Fs : List Nat) (P : Program) (md : Region.Mode) (all l : List Oper) (Q : Exit → Act → World → Prop) (L : List Nat) (V : Nat → World → Value → Prop) (t : Array Value) (df : List Deferred) (w : World) : List Oper → Nat → Prop
  | [], _ => True
  | o :: r, i => (∀ (x : Nat → Value) (w' : World), Fr L w w' → holds V w' x (waits md o) → ∀ K : Act → World → Prop, Shut (∀ v w'', Fr L w' w'' → V i w'' v → NewP Fs i w'.heap.size v → K (({ tmps := fill l 0 x t, defers := df } : Act).put o.dst v) w'') →
      if Region.wanted o (yielded all.toArray ({ tmps := fill l 0 x t, defers := df } : Act).tmps) = true then o.wp P { tmps := fill l 0 x t, defers := df } w' K Q else K (({ tmps := fill l 0 x t, defers := df } : Act).put o.dst undef) w') ∧
    parStepsF Fs P md all l Q L V t df w r (i + 1)

theorem parStepsF_at {Fs : List Nat} {P : Program} {md : Region.Mode} {all l : List Oper} {Q : Exit → Act → World → Prop} {L : List Nat} {V : Nat → World → Value → Prop} {t : Array Value} {df : List Deferred} {w : World} :
    ∀ {r : List Oper} {k : Nat}, parStepsF Fs P md all l Q L V t df w r k → ∀ {i : Nat} {o : Oper}, r[i]? = some o →
      ∀ (x : Nat → Value) (w' : World), Fr L w w' → holds V w' x (waits md o) → ∀ K : Act → World → Prop, (∀ v w'', Fr L w' w'' → V (k + i) w'' v → NewP Fs (k + i) w'.heap.size v → K (({ tmps := fill l 0 x t, defers := df } : Act).put o.dst v) w'') →
      if Region.wanted o (yielded all.toArray ({ tmps := fill l 0 x t, defers := df } : Act).tmps) = true then o.wp P { tmps := fill l 0 x t, defers := df } w' K Q else K (({ tmps := fill l 0 x t, defers := df } : Act).put o.dst undef) w'
  | [], _, _, _, _, h => by simp at h
  | o :: r, k, hh, 0, p, h => by simp at h; subst h; exact hh.1
  | o :: r, k, hh, i + 1, p, h => by
    have := parStepsF_at hh.2 (i := i) (by simpa using h)
    rw [show k + (i + 1) = k + 1 + i by omega]; exact this

theorem wpAny_parF {Fs : List Nat} {P : Program} {md : Region.Mode} {l zs : List Oper} {Q : Exit → Act → World → Prop} {L : List Nat} {V : Nat → World → Value → Prop} {t : Array Value} {df : List Deferred} {w : World}
    (hA : apartB l = true) (hT : topoB md (l ++ zs) = true) (hW : tailB md (l ++ zs) l.length = true) (hV : ∀ i w w' v, i < l.length → Fr L w w' → V i w v → V i w' v) (hO : ∀ i w v, i < l.length → Fs.contains i = true → V i w v → OldP w v) (hS : parStepsF Fs P md (l ++ zs) l Q L V t df w l 0)
    (hD : ∀ x w', Fr L w w' → holds V w' x (List.range l.length) → AptP Fs l.length x → wpList P (l ++ zs).toArray Q zs { tmps := fill l 0 x t, defers := df } w') :
    ∀ (f : Nat) (listed : Array Bool) (x : Nat → Value) (w' : World), listed.size = (l ++ zs).length → (∀ i, l.length ≤ i → i < (l ++ zs).length → listed[i]? = some false) → (∀ (j : Nat) (o : Oper), (l ++ zs)[j]? = some o → listed[j]? = some true → ∀ i ∈ waits md o, listed[i]? = some true) → (listed.toList.filter (! ·)).length ≤ f → Fr L w w' → (∀ i, i < l.length → listed[i]? = some true → V i w' (x i)) → (∀ i j, i < l.length → j < l.length → listed[i]? = some true → listed[j]? = some true → i ≠ j → Fs.contains i = true → Fs.contains j = true → ∀ b c, x i = .pointer (some ⟨b, 0, none⟩) → x j = .pointer (some ⟨c, 0, none⟩) → b ≠ c) →
      wpAny P md (l ++ zs).toArray Q f listed { tmps := fill l 0 x t, defers := df } w' := by
  intro f
  induction f with
  | zero =>
    intro listed x w' hn hlast hdc hc hf hv hap
    have hfa : ∀ i, i < listed.size → listed[i]? = some true := fun i hi => by
      cases hb : listed[i] with
      | true => rw [Array.getElem?_eq_getElem hi, hb]
      | false =>
        exfalso
        have : false ∈ listed.toList.filter (! ·) := by
          rw [List.mem_filter]
          exact ⟨by rw [← hb]; simp, rfl⟩
        rw [List.length_eq_zero_iff.1 (Nat.le_zero.1 hc)] at this
        cases this
    have hzn : zs = [] := by
      cases zs with
      | nil => rfl
      | cons z zs =>
        exfalso
        have h1 := hlast l.length (Nat.le_refl _) (by simp)
        rw [hfa l.length (by simp at hn; omega)] at h1
        cases h1
    refine wpAny_tail hT hW zs l.length 0 listed _ w' (Nat.le_refl _) (by simp) hn (fun i hi => ?_) hc (hD x w' hf (holds_of fun j hj => hv j (List.mem_range.1 hj) (hfa j (by simp at hn hj; omega))) (fun i j hi hj => hap i j hi hj (hfa i (by simp at hn; omega)) (hfa j (by simp at hn; omega))))
    rw [hfa i hi]
    subst hzn
    simp at hn
    simp; omega
  | succ f ih =>
    intro listed x w' hn hlast hdc hc hf hv hap
    by_cases hall : ∀ j, j < l.length → listed[j]? = some true
    · refine wpAny_tail hT hW zs l.length (f + 1) listed _ w' (Nat.le_refl _) (by simp) hn (fun i hi => ?_) hc (hD x w' hf (holds_of fun j hj => hv j (List.mem_range.1 hj) (hall j (List.mem_range.1 hj))) (fun i j hi hj => hap i j hi hj (hall i hi) (hall j hj)))
      by_cases h : i < l.length
      · rw [hall i h]; simp [h]
      · rw [hlast i (by omega) (by omega)]; simp [h]
    · have key : ∀ i ∈ Region.ready md (l ++ zs).toArray listed, i < l.length := fun i hi => by
        obtain ⟨h1, o, ho, h2⟩ := mem_ready.1 hi
        have ho' : (l ++ zs)[i]? = some o := by simpa using ho
        have hil : i < (l ++ zs).length := (List.getElem?_eq_some_iff.1 ho').1
        by_cases hc2 : i < l.length
        · exact hc2
        · exfalso
          apply hall
          intro j hj
          simp only [tailB, List.all_eq_true, List.mem_range, Bool.or_eq_true, decide_eq_true_eq] at hW
          rcases hW i hil with h3 | h3
          · exact absurd h3 hc2
          · have h4 := h3 j (by omega)
            rw [ho'] at h4
            simp only [List.contains_eq_mem, decide_eq_true_eq] at h4
            refine clo_of (p := fun j => listed[j]? = some true) hdc _ _ (fun q hq => ?_) j h4
            simp only [waits, List.mem_map, List.mem_filter] at hq
            obtain ⟨e, ⟨he, hb⟩, rfl⟩ := hq
            have h6 := h2 e (by simpa using he) hb
            rw [Array.getD_eq_getD_getElem?] at h6
            cases h7 : listed[e.on]? with
            | none => rw [h7] at h6; cases h6
            | some b => rw [h7] at h6; simp at h6; rw [h6]
      refine ⟨fun hr => ?_, fun i hi => ?_⟩
      · exfalso
        apply hall
        have all : ∀ n i, i < n → i < l.length → listed[i]? = some true := by
          intro n
          induction n with
          | zero => intro i hi; omega
          | succ n ih2 =>
            intro i hi hil
            by_cases hb : listed[i]? = some true
            · exact hb
            · exfalso
              have hlt : i < listed.size := by simp at hn; omega
              have hb' : listed[i]? = some false := by
                rw [Array.getElem?_eq_getElem hlt] at hb ⊢
                cases hx : listed[i] with
                | false => rfl
                | true => rw [hx] at hb; exact absurd rfl hb
              have hil' : i < (l ++ zs).length := by simp; omega
              have : i ∈ Region.ready md (l ++ zs).toArray listed := by
                refine mem_ready.2 ⟨by simp [Array.getD_eq_getD_getElem?, hb'], (l ++ zs)[i], by rw [List.getElem?_toArray, List.getElem?_eq_getElem hil'], fun e he hbd => ?_⟩
                simp only [topoB, List.all_eq_true, List.mem_range] at hT
                have h1 := hT i hil'
                rw [List.getElem?_eq_getElem hil'] at h1
                simp only [List.all_eq_true, decide_eq_true_eq] at h1
                have h2 := h1 e.on (by simp only [waits, List.mem_map, List.mem_filter]; exact ⟨e, ⟨by simpa using he, hbd⟩, rfl⟩)
                have h3 := ih2 e.on (by omega) (by omega)
                simp [Array.getD_eq_getD_getElem?, h3]
              rw [hr] at this
              cases this
        exact fun j hj => all (j + 1) j (by omega) hj
      · have hil := key i hi
        obtain ⟨h1, o, ho, h2⟩ := mem_ready.1 hi
        have ho' : (l ++ zs)[i]? = some o := by simpa using ho
        have hol : l[i]? = some o := by rwa [List.getElem?_append_left hil] at ho'
        have hlt : i < listed.size := by simp at hn; omega
        have h5 : listed[i] = false := by
          simpa [Array.getD_eq_getD_getElem?, Array.getElem?_eq_getElem hlt] using h1
        have hwz : ∀ q ∈ waits md o, listed[q]? = some true := fun q hq => by
          simp only [waits, List.mem_map, List.mem_filter] at hq
          obtain ⟨e, ⟨he, hb⟩, rfl⟩ := hq
          have h6 := h2 e (by simpa using he) hb
          rw [Array.getD_eq_getD_getElem?] at h6
          cases h7 : listed[e.on]? with
          | none => rw [h7] at h6; cases h6
          | some b => rw [h7] at h6; simp at h6; rw [h6]
        have hlow : ∀ q ∈ waits md o, q < l.length := fun q hq => by
          simp only [topoB, List.all_eq_true, List.mem_range] at hT
          have g1 := hT i (by simp; omega)
          rw [ho'] at g1
          simp only [List.all_eq_true, decide_eq_true_eq] at g1
          have := g1 q hq
          omega
        have hst := parStepsF_at hS hol x w' hf (holds_of fun j hj => hv _ (hlow j hj) (hwz j hj))
        refine wpOp_step ho fun K' hK => hst K' fun v w'' hf2 hv2 hn2 => ?_
        rw [fill_put hA hol]
        have keepk : ∀ k, listed[k]? = some true → (listed.setIfInBounds i true)[k]? = some true := fun k h => by
          rw [Array.getElem?_setIfInBounds]
          by_cases e : i = k
          · rw [if_pos e, if_pos (e ▸ hlt)]
          · rw [if_neg e]; exact h
        refine hK _ _ (ih _ _ _ (by simpa using hn) (fun j hj hj2 => ?_) (fun j p hp hj k hk => ?_) ?_ (hf.tr hf2) (fun j hjl hj => ?_) fun i' j' hi' hj' hli hlj hne hF1 hF2 b c hb hc => ?_)
        · rw [Array.getElem?_setIfInBounds, if_neg (by omega)]; exact hlast j hj hj2
        · by_cases e : i = j
          · subst e
            rw [ho'] at hp
            cases hp
            exact keepk k (hwz k hk)
          · rw [Array.getElem?_setIfInBounds, if_neg e] at hj
            exact keepk k (hdc j p hp hj k hk)
        · have := count_set listed.toList i (by simpa using hlt) (by simpa using h5)
          simp only [Array.toList_setIfInBounds]
          omega
        · by_cases e : i = j
          · subst e; simp only [upd, if_true]; simpa using hv2
          · rw [Array.getElem?_setIfInBounds, if_neg e] at hj
            simp only [upd, if_neg (Ne.symm e)]
            exact hV j _ _ _ hjl hf2 (hv j hjl hj)
        · rw [Nat.zero_add] at hn2
          by_cases e1 : i = i'
          · subst e1
            simp only [upd, if_true] at hb
            have e2 : ¬ i = j' := hne
            rw [Array.getElem?_setIfInBounds, if_neg e2] at hlj
            simp only [upd, if_neg (Ne.symm e2)] at hc
            have h1 := hn2 hF1 b hb
            have h2 := hO j' w' _ hj' hF2 (hv j' hj' hlj) c hc
            omega
          · rw [Array.getElem?_setIfInBounds, if_neg e1] at hli
            simp only [upd, if_neg (Ne.symm e1)] at hb
            by_cases e2 : i = j'
            · subst e2
              simp only [upd, if_true] at hc
              have h1 := hn2 hF2 c hc
              have h2 := hO i' w' _ hi' hF1 (hv i' hi' hli) b hb
              omega
            · rw [Array.getElem?_setIfInBounds, if_neg e2] at hlj
              simp only [upd, if_neg (Ne.symm e2)] at hc
              exact hap i' j' hi' hj' hli hlj hne hF1 hF2 b c hb hc

def parStepsAF (Fs : List Nat) (P : Program) (md : Region.Mode) (l : List Oper) (Q : Exit → Act → World → Prop) (L : List Nat) (V : Nat → World → Value → Prop) (t : Array Value) (w : World) : List Oper → Nat → Prop
  | [], _ => True
  | o :: r, i => (∀ (a : Act) (w' : World), Fr L w w' → (∀ k, (l.all fun o => o.dst != some k) = true → a.tmps.getD k undef = t.getD k undef) → holdsA V w' a l (waits md o) → ∀ K : Act → World → Prop, Shut (∀ v w'', Fr L w' w'' → V i w'' v → NewP Fs i w'.heap.size v → K (a.put o.dst v) w'') →
      if Region.wanted o (yielded l.toArray a.tmps) = true then o.wp P a w' K Q else K (a.put o.dst undef) w') ∧
    parStepsAF Fs P md l Q L V t w r (i + 1)

theorem parStepsF_of {Fs : List Nat} {P : Program} {md : Region.Mode} {l zs : List Oper} {Q : Exit → Act → World → Prop} {L : List Nat} {V : Nat → World → Value → Prop} {t : Array Value} {df : List Deferred} {w : World} (hA : apartB l = true) (hT : topoB md (l ++ zs) = true) (hsz : (l.all fun o => match o.dst with | some d => decide (d < t.size) | none => true) = true) :
    ∀ {r : List Oper} {k : Nat}, l.drop k = r → parStepsAF Fs P md (l ++ zs) Q L V t w r k → parStepsF Fs P md (l ++ zs) l Q L V t df w r k
  | [], _, _, _ => trivial
  | o :: r, k, hr, h => by
    have hk : l[k]? = some o := by
      have : (l.drop k)[0]? = some o := by rw [hr]; rfl
      simpa using this
    have hkl : k < l.length := (List.getElem?_eq_some_iff.1 hk).1
    refine ⟨fun x w' hf hp K hK => h.1 _ w' hf (fun j hj => by
      rw [Array.getD_eq_getD_getElem?, Array.getD_eq_getD_getElem?, fill_keep l 0 x t j (fun i o' ho' he => by
        simp only [List.all_eq_true, bne_iff_ne, ne_eq] at hj
        exact hj o' (List.mem_append_left _ (List.mem_of_getElem? ho')) he)]) (holdsA_ofT hA hsz (fun i hi => ?_) hp) K hK, parStepsF_of hA hT hsz (by rw [← List.drop_drop, hr]; rfl) h.2⟩
    simp only [topoB, List.all_eq_true, List.mem_range] at hT
    have g1 := hT k (by simp; omega)
    rw [List.getElem?_append_left hkl, hk] at g1
    simp only [List.all_eq_true, decide_eq_true_eq] at g1
    have := g1 i hi
    omega

/-- **Operations in any order, then a row of operations each of which comes alone.** -/
theorem wp_region_keepsF {P : Program} {id : Nat} {Q : Exit → Act → World → Prop} {t : Array Value} {df : List Deferred} {w : World} {all : List Oper} (L Fs : List Nat) (Vs : List (World → Value → Prop)) (n : Nat) (hn : decide (n ≤ all.length) = true) (hm : P.follows .mixedOrders = true)
    (hA : apartB (all.take n) = true) (hT : topoB .any all = true) (hsz : ((all.take n).all fun o => match o.dst with | some d => decide (d < t.size) | none => true) = true) (hW : tailB .any all n = true) (hV : KeepsAll L Vs) (hO : ∀ i, i ∈ Fs → ∀ w v, nth Vs i w v → OldP w v) (hS : parStepsAF Fs P .any all Q L (nth Vs) t w (all.take n) 0)
    (hD : ∀ x w', Fr L w w' → holds (nth Vs) w' x (List.range n) → AptP Fs n x → wpList P all.toArray Q (all.drop n) { tmps := fill (all.take n) 0 x t, defers := df } w') :
    (Code.region id all.toArray true).wp P Q { tmps := t, defers := df } w := by
  have e : all = all.take n ++ all.drop n := (List.take_append_drop n all).symm
  have hl : (all.take n).length = n := by simp at hn ⊢; omega
  refine wp_region_any hm ?_
  generalize hlz : all.take n = l at *
  generalize all.drop n = zs at *
  subst e
  subst hl
  have hS' := parStepsF_of (df := df) hA hT hsz (k := 0) (by simp) hS
  have h := wpAny_parF (V := nth Vs) hA hT hW (fun i _ _ _ _ hf h => hV.nth i _ _ _ hf h) (fun i w v _ hc h => hO i (by simpa using hc) w v h) hS' hD (l ++ zs).toArray.size (Array.replicate (l ++ zs).toArray.size false) (fun i => ((l[i]?).bind (·.dst)).elim undef fun d => t.getD d undef) { w with drawn := w.drawn + 1 } (by simp) (fun i _ hi => by simp at hi; simp [Array.getElem?_replicate, hi]) (fun j o _ hj => by rw [Array.getElem?_replicate] at hj; split at hj <;> cases hj)
    (by simp) ((Fr.refl L w).drewN 1) (fun i _ hi => by rw [Array.getElem?_replicate] at hi; split at hi <;> cases hi) (fun i j _ _ hi => by rw [Array.getElem?_replicate] at hi; split at hi <;> cases hi)
  rw [fill_id] at h
  · exact h
  · intro i o d ho hd
    rw [Nat.zero_add, ho]
    simp [hd]
end Go.Proofs.YtodlbajpcbdbaaaDoor
namespace Go.Proofs.YtodlbajpcbdbaaaDoor.U8
open Go.RowKit
set_option linter.unusedVariables false
set_option linter.unusedSimpArgs false
set_option maxRecDepth 100000

/-- An entry. -/
structure IE where
  k : Int
  v : Value
  born : Nat
def IE.e (x : IE) : MapEntry := ⟨.int .u8 x.k, x.v, x.born⟩
abbrev ents (l : List IE) : Array MapEntry := (l.map IE.e).toArray
def get (l : List IE) (n : Int) : Option Value := (l.find? (·.k == n)).map (·.v)

theorem findNow_int (n : Int) : ∀ (l : List IE) (i : Nat), Instr.findNow (.int .u8) (.int .u8 n) (l.map IE.e) i = some (((l.findIdx? (·.k == n)).map (· + i)).bind fun j => (l[j - i]?).map fun x => (j, x.v))
  | [], i => rfl
  | x :: l, i => by
    have ih := findNow_int n l (i + 1)
    show (match Instr.sameNow (.int .u8) (.int .u8 n) (.int .u8 x.k) with | some true => some (some (i, x.v)) | some false => Instr.findNow (.int .u8) (.int .u8 n) (l.map IE.e) (i + 1) | none => none) = _
    by_cases h : x.k = n
    · have : Instr.sameNow (.int .u8) (.int .u8 n) (.int .u8 x.k) = some true := by simp [Instr.sameNow, h]
      rw [this]
      simp [List.findIdx?_cons, h]
    · have : Instr.sameNow (.int .u8) (.int .u8 n) (.int .u8 x.k) = some false := by simp [Instr.sameNow]; exact fun e => h e.symm
      rw [this]
      dsimp only
      rw [ih]
      have hb : (x.k == n) = false := by simpa using h
      simp only [List.findIdx?_cons, hb, Bool.false_eq_true, if_false]
      cases hf : l.findIdx? (·.k == n) with
      | none => simp
      | some j =>
        simp only [Option.map_some, Option.bind_some]
        rw [show j + 1 + i - i = j + 1 by omega, show j + (i + 1) - (i + 1) = j by omega, List.getElem?_cons_succ, show j + 1 + i = j + (i + 1) by omega]

theorem getI_eq (l : List IE) (n : Int) : get l n = ((l.findIdx? (·.k == n)).bind fun j => (l[j]?).map (·.v)) := by
  unfold get
  induction l with
  | nil => rfl
  | cons x l ih =>
    simp only [List.find?_cons, List.findIdx?_cons]
    by_cases hx : (x.k == n) = true
    · simp [hx]
    · simp only [hx, Bool.false_eq_true, if_false]
      rw [ih]
      cases l.findIdx? (·.k == n) <;> simp

section
open Go.ChangeMaps Go.MapKept
variable {P : Program} {w : World} {b : Nat} {l : List IE} {clock : Nat} {t k e : TypeId}

theorem run_checkInt (hk : P.underlying k = some (.int .u8)) (em : Bool) (n : Int) : (Instr.checkKey em 10000 k (.int .u8 n)).run P w = .ok () w := by
  show (Instr.checkKey em (9999 + 1) k (.int .u8 n)).run P w = .ok () w
  unfold Instr.checkKey
  simp [run_underlying hk, Result.andThen, Sem.run_bind]

theorem run_findInt (hk : P.underlying k = some (.int .u8)) (n : Int) : (Instr.findKey k (.int .u8 n) (ents l).toList).run P w = .ok ((l.findIdx? (·.k == n)).bind fun j => (l[j]?).map fun x => (j, x.v)) w := by
  have h := findNow_int n l 0
  simp only [Nat.add_zero, Nat.sub_zero, Option.map_id_fun', id_eq] at h
  unfold Instr.findKey
  simp only [run_underlying hk, Result.andThen, Sem.run_bind, ents, h]
  rfl

theorem im_lookup (h : w.heap[b]? = some (.map (ents l) clock)) (ht : P.underlying t = some (.map k e)) (hk : P.underlying k = some (.int .u8)) {z : Value} (hz : (zeroValue e).run P w = .ok z w) (n : Int) (ok : Bool) :
    (Instr.lookup t (.map (some b)) (.int .u8 n) ok).run P w = .ok (if ok then .tuple #[(get l n).getD z, .bool (get l n).isSome] else (get l n).getD z) w := by
  have hf := run_findInt (P := P) (w := w) (l := l) hk n
  rw [getI_eq]
  cases hi : l.findIdx? (·.k == n) with
  | none =>
    rw [hi] at hf
    simp only [Option.bind_none] at hf ⊢
    simp [Instr.lookup, run_underlying ht, MapKept.run_getObj_map h, run_checkInt hk, hf, hz, Result.andThen]
  | some j =>
    rw [hi] at hf
    have hj : j < l.length := by
      have := List.findIdx?_eq_some_iff_findIdx_eq.1 hi
      exact this.1
    simp only [Option.bind_some, List.getElem?_eq_getElem hj, Option.map_some] at hf ⊢
    simp [Instr.lookup, run_underlying ht, MapKept.run_getObj_map h, run_checkInt hk, hf, Result.andThen]

theorem im_lookup_nil (ht : P.underlying t = some (.map k e)) (hk : P.underlying k = some (.int .u8)) {z : Value} (hz : (zeroValue e).run P w = .ok z w) (n : Int) (ok : Bool) :
    (Instr.lookup t (.map none) (.int .u8 n) ok).run P w = .ok (if ok then .tuple #[z, .bool false] else z) w := by
  have hf := run_findInt (P := P) (w := w) (l := []) hk n
  simp only [List.findIdx?_nil, Option.bind_none, ents, List.map_nil] at hf
  simp [Instr.lookup, run_underlying ht, run_checkInt hk, hf, hz, Result.andThen]

theorem im_push (h : w.heap[b]? = some (.map (ents l) clock)) (ht : P.underlying t = some (.map k e)) (hk : P.underlying k = some (.int .u8)) (n : Int) (v : Value) (hn : get l n = none) :
    (Instr.mapUpdate t (.map (some b)) (.int .u8 n) v).run P w = .ok () (setBlock w b (.map (ents (l ++ [⟨n, v, clock⟩])) (clock + 1))) := by
  have hf := run_findInt (P := P) (w := w) (l := l) hk n
  rw [getI_eq] at hn
  have hi : l.findIdx? (·.k == n) = none := by
    cases hi : l.findIdx? (·.k == n) with
    | none => rfl
    | some j =>
      rw [hi] at hn
      have hj : j < l.length := (List.findIdx?_eq_some_iff_findIdx_eq.1 hi).1
      simp [List.getElem?_eq_getElem hj] at hn
  rw [hi] at hf
  simp only [Option.bind_none] at hf
  simp [Instr.mapUpdate, run_underlying ht, MapKept.run_getObj_map h, run_checkInt hk, hf, MapKept.run_setObj_map _ h, Result.andThen, setBlock, ents, IE.e]

theorem im_delete (h : w.heap[b]? = some (.map (ents l) clock)) (ht : P.underlying t = some (.map k e)) (hk : P.underlying k = some (.int .u8)) (hd : (l.map (·.k)).Nodup) (n : Int) (ty : TypeId) :
    (Builtin.delete_ #[t, k] ty #[.map (some b), .int .u8 n]).run P w = .ok (.tuple #[]) (setBlock w b (.map (ents (l.filter (·.k != n))) clock)) := by
  have hf := run_findInt (P := P) (w := w) (l := l) hk n
  cases hi : l.findIdx? (·.k == n) with
  | none =>
    rw [hi] at hf
    simp only [Option.bind_none] at hf
    have hfl : l.filter (·.k != n) = l := by
      rw [List.filter_eq_self]
      intro x hx
      rw [List.findIdx?_eq_none_iff] at hi
      have := hi x hx
      simpa using this
    rw [hfl]
    simp [Builtin.delete_, run_underlying ht, MapKept.run_getObj_map h, run_checkInt hk, hf, MapKept.run_setObj_map _ h, Result.andThen, setBlock]
  | some j =>
    rw [hi] at hf
    obtain ⟨hj, hj2⟩ := List.findIdx?_eq_some_iff_findIdx_eq.1 hi
    simp only [Option.bind_some, List.getElem?_eq_getElem hj, Option.map_some] at hf
    have hkj : l[j].k = n := by
      have := List.findIdx_getElem (xs := l) (p := (·.k == n)) (w := by rw [hj2]; exact hj)
      simp only [hj2] at this
      simpa using this
    have hfl : l.filter (·.k != n) = l.eraseIdx j := by
      have key : ∀ (l : List IE) (j : Nat) (hj : j < l.length), (l.map (·.k)).Nodup → l[j].k = n → l.filter (·.k != n) = l.eraseIdx j := by
        intro l
        induction l with
        | nil => intro j hj; simp at hj
        | cons x l ih =>
          intro j hj hd hk
          rw [List.map_cons, List.nodup_cons] at hd
          cases j with
          | zero =>
            simp only [List.getElem_cons_zero] at hk
            rw [List.eraseIdx_cons_zero, List.filter_cons, if_neg (by simp [hk]), List.filter_eq_self]
            intro y hy
            simp only [bne_iff_ne, ne_eq]
            exact fun e => hd.1 (by rw [hk, ← e]; exact List.mem_map_of_mem hy)
          | succ j =>
            have hj' : j < l.length := by simpa using hj
            simp only [List.getElem_cons_succ] at hk
            have hx : (x.k != n) = true := by
              simp only [bne_iff_ne, ne_eq]
              exact fun e => hd.1 (by rw [e, ← hk]; exact List.mem_map_of_mem (List.getElem_mem hj'))
            rw [List.eraseIdx_cons_succ, List.filter_cons, if_pos hx, ih j hj' hd.2 hk]
      exact key l j hj hd hkj
    rw [hfl]
    have he : (ents l).eraseIdxIfInBounds j = ents (l.eraseIdx j) := by
      have : j < (ents l).size := by simpa [ents] using hj
      simp only [Array.eraseIdxIfInBounds, this, dif_pos]
      apply Array.ext'
      simp [ents, map_eraseIdx]
    simp [Builtin.delete_, run_underlying ht, MapKept.run_getObj_map h, run_checkInt hk, hf, MapKept.run_setObj_map _ h, Result.andThen, setBlock, ents, map_eraseIdx]

end
end Go.Proofs.YtodlbajpcbdbaaaDoor.U8
namespace Go.Proofs.YtodlbajpcbdbaaaDoor.U8
open Go.RowKit
set_option linter.unusedVariables false
set_option linter.unusedSimpArgs false
set_option maxRecDepth 100000

theorem get_mod (n m : Int) (v : Value) : ∀ (l : List IE) (j : Nat), l.findIdx? (·.k == n) = some j → get (l.modify j fun x => ⟨n, v, x.born⟩) m = if m = n then some v else get l m
  | [], j, h => by simp at h
  | x :: r, j, h => by
    by_cases hx : x.k = n
    · have hj : j = 0 := by
        rw [List.findIdx?_cons] at h
        simp [hx] at h
        exact h.symm
      subst hj
      by_cases hm : m = n
      · subst hm
        simp [get]
      · have h1 : (n == m) = false := by simp; omega
        have h2 : (x.k == m) = false := by rw [hx]; exact h1
        simp [get, hm, h1, h2, List.find?_cons]
    · have hx' : (x.k == n) = false := by simpa using hx
      rw [List.findIdx?_cons, hx'] at h
      simp only [Bool.false_eq_true, if_false, Option.map_eq_some_iff] at h
      obtain ⟨j', h1, rfl⟩ := h
      have ih := get_mod n m v r j' h1
      rw [List.modify_succ_cons]
      unfold get at ih ⊢
      rw [List.find?_cons, List.find?_cons]
      by_cases hm : x.k = m
      · have h3 : ¬ m = n := fun e => hx (hm.trans e)
        simp [hm, h3]
      · have h4 : (x.k == m) = false := by simpa using hm
        rw [h4]
        exact ih
theorem get_snoc (l : List IE) (n m : Int) (v : Value) (c : Nat) (h : get l n = none) : get (l ++ [⟨n, v, c⟩]) m = if m = n then some v else get l m := by
  unfold get at h ⊢
  rw [List.find?_append]
  by_cases hm : m = n
  · subst hm
    have h0 : l.find? (·.k == m) = none := by simpa using h
    simp [h0]
  · have h1 : (n == m) = false := by simp; omega
    simp [hm, h1]
open Go.ChangeMaps Go.MapKept
variable {P : Program} {w : World} {b clock : Nat} {l : List IE} {t k e : TypeId}
theorem im_put (h : w.heap[b]? = some (.map (ents l) clock)) (ht : P.underlying t = some (.map k e)) (hk : P.underlying k = some (.int .u8)) (n : Int) (v : Value) :
    ∃ l' clock', (Instr.mapUpdate t (.map (some b)) (.int .u8 n) v).run P w = .ok () (setBlock w b (.map (ents l') clock')) ∧ ∀ m, get l' m = if m = n then some v else get l m := by
  cases hi : l.findIdx? (·.k == n) with
  | none =>
    have hn : get l n = none := by rw [getI_eq, hi]; rfl
    exact ⟨_, _, im_push h ht hk n v hn, fun m => get_snoc l n m v clock hn⟩
  | some j =>
    have hf := run_findInt (P := P) (w := w) (l := l) hk n
    rw [hi] at hf
    have hj : j < l.length := (List.findIdx?_eq_some_iff_findIdx_eq.1 hi).1
    have hkj : l[j].k = n := by
      have := (List.findIdx?_eq_some_iff_getElem.1 hi).2.1
      simpa using this
    refine ⟨l.modify j fun x => ⟨n, v, x.born⟩, clock, ?_, fun m => get_mod n m v l j hi⟩
    simp only [Option.bind_some, List.getElem?_eq_getElem hj, Option.map_some] at hf
    have hst : (Instr.keyThatStays (IE.e l[j]).key (.int .u8 n)).run P w = .ok (.int .u8 n) w := by
      show (Instr.keyThatStays (.int .u8 l[j].k) (.int .u8 n)).run P w = .ok (.int .u8 n) w
      have hsb : Instr.sameBits 10000 (.int .u8 n) (.int .u8 n) = true := by show Instr.sameBits (9999 + 1) (.int .u8 n) (.int .u8 n) = true; simp [Instr.sameBits]
      rw [hkj]; simp [Instr.keyThatStays, hsb]
    have hms : (List.map IE.e l).modify j (fun e => { key := .int .u8 n, val := v, born := e.born }) = List.map IE.e (l.modify j fun x => ⟨n, v, x.born⟩) := by
      apply List.ext_getElem?
      intro q
      simp only [List.getElem?_modify, List.getElem?_map]
      by_cases hq : j = q
      · subst hq
        rw [List.getElem?_eq_getElem hj]
        simp
        rfl
      · simp [hq]
    simp [Instr.mapUpdate, run_underlying ht, MapKept.run_getObj_map h, run_checkInt hk, hf, MapKept.run_setObj_map _ h, Result.andThen, setBlock, hj, hst, MapKept.run_setObj_map _ h]
    rw [hms]
end Go.Proofs.YtodlbajpcbdbaaaDoor.U8
namespace Go.Proofs.YtodlbajpcbdbaaaDoor
open Go.RowKit
set_option linter.unusedVariables false
set_option linter.unusedSimpArgs false
set_option maxRecDepth 100000

def holdsB (V : Nat → World → Value → Prop) (w : World) (a : Act) (l : List Oper) : List Nat → Prop
  | [] => True
  | i :: r => (match (l[i]?).bind (·.dst) with | some d => V i w (a.tmps.getD d undef) | none => ∃ v, V i w v) ∧ holdsB V w a l r

theorem holdsB_ofT {V : Nat → World → Value → Prop} {w : World} {x : Nat → Value} {l zs : List Oper} {t : Array Value} {df : List Deferred} (hA : apartB l = true) (hsz : (l.all fun o => match o.dst with | some d => decide (d < t.size) | none => true) = true) :
    ∀ {m : List Nat}, (∀ i ∈ m, i < l.length) → holds V w x m → holdsB V w { tmps := fill l 0 x t, defers := df } (l ++ zs) m
  | [], _, _ => trivial
  | i :: r, hm, h => by
    refine ⟨?_, holdsB_ofT hA hsz (fun j hj => hm j (by simp [hj])) h.2⟩
    have hil := hm i (by simp)
    rw [List.getElem?_append_left hil]
    cases ho : l[i]? with
    | none => rw [List.getElem?_eq_getElem hil] at ho; cases ho
    | some o =>
      cases hd : o.dst with
      | none => simp only [Option.bind_some, hd]; exact ⟨_, h.1⟩
      | some d =>
        simp only [Option.bind_some, hd]
        have hs : d < t.size := by
          simp only [List.all_eq_true] at hsz
          have := hsz o (List.mem_of_getElem? ho)
          rw [hd] at this
          simpa using this
        have := fill_at l 0 x t i o d ho hd (fun i' o' h1 h2 => apart_of hA ho h1 hd h2) hs
        rw [Array.getD_eq_getD_getElem?, this]
        simpa using h.1
def parStepsBG (F : World → World → Prop) (St : Nat → World → World → Prop) (ea : Nat → Bool) (Bs : World → Prop) (P : Program) (md : Region.Mode) (l : List Oper) (Q : Exit → Act → World → Prop) (V : Nat → World → Value → Prop) (t : Array Value) (w : World) : List Oper → Nat → Prop
  | [], _ => True
  | o :: r, i => (∀ (a : Act) (w' : World), F w w' → (ea i = true → Bs w') → (∀ k, (l.all fun o => o.dst != some k) = true → a.tmps.getD k undef = t.getD k undef) → holdsB V w' a l (waits md o) → ∀ K : Act → World → Prop, Shut (∀ v w'', St i w' w'' → V i w'' v → K (a.put o.dst v) w'') →
      if Region.wanted o (yielded l.toArray a.tmps) = true then o.wp P a w' K Q else K (a.put o.dst undef) w') ∧
    parStepsBG F St ea Bs P md l Q V t w r (i + 1)
theorem parStepsBG_of {F : World → World → Prop} {St : Nat → World → World → Prop} {ea : Nat → Bool} {Bs : World → Prop} {P : Program} {md : Region.Mode} {l zs : List Oper} {Q : Exit → Act → World → Prop} {V : Nat → World → Value → Prop} {t : Array Value} {df : List Deferred} {w : World} (hA : apartB l = true) (hT : topoB md (l ++ zs) = true) (hsz : (l.all fun o => match o.dst with | some d => decide (d < t.size) | none => true) = true) :
    ∀ {r : List Oper} {k : Nat}, l.drop k = r → parStepsBG F St ea Bs P md (l ++ zs) Q V t w r k → parStepsG F St ea Bs P md (l ++ zs) l Q V t df w r k
  | [], _, _, _ => trivial
  | o :: r, k, hr, h => by
    have hk : l[k]? = some o := by
      have : (l.drop k)[0]? = some o := by rw [hr]; rfl
      simpa using this
    have hkl : k < l.length := (List.getElem?_eq_some_iff.1 hk).1
    refine ⟨fun x w' hf hb hp K hK => h.1 _ w' hf hb (fun j hj => by
      rw [Array.getD_eq_getD_getElem?, Array.getD_eq_getD_getElem?, fill_keep l 0 x t j (fun i o' ho' he => by
        simp only [List.all_eq_true, bne_iff_ne, ne_eq] at hj
        exact hj o' (List.mem_append_left _ (List.mem_of_getElem? ho')) he)]) (holdsB_ofT hA hsz (fun i hi => ?_) hp) K hK, parStepsBG_of hA hT hsz (by rw [← List.drop_drop, hr]; rfl) h.2⟩
    simp only [topoB, List.all_eq_true, List.mem_range] at hT
    have g1 := hT k (by simp; omega)
    rw [List.getElem?_append_left hkl, hk] at g1
    simp only [List.all_eq_true, decide_eq_true_eq] at g1
    have := g1 i hi
    omega
theorem wp_region_keepsGB {P : Program} {id : Nat} {Q : Exit → Act → World → Prop} {t : Array Value} {df : List Deferred} {w : World} {all : List Oper} (F : World → World → Prop) (St : Nat → World → World → Prop) (bad : Nat → Bool) (Bs : World → Prop) (dead : Nat → Nat → Bool) (V : Nat → World → Value → Prop) (n : Nat) (hn : decide (n ≤ all.length) = true) (hm : P.follows .mixedOrders = true)
    (hA : apartB (all.take n) = true) (hT : topoB .any all = true) (hsz : ((all.take n).all fun o => match o.dst with | some d => decide (d < t.size) | none => true) = true) (hW : tailB .any all n = true)
    (hF0 : F w { w with drawn := w.drawn + 1 }) (hF : ∀ i w' w'', i < n → F w w' → St i w' w'' → F w w'') (hV : ∀ i j w' w'' v, i < n → j < n → i ≠ j → dead i j = false → beforeB .any all i j = false → (∀ c, c < n → dead i c = true → beforeB .any all j c = false) → F w w' → St j w' w'' → V i w' v → V i w'' v) (hDead : deadB .any all n dead = true) (hB : ∀ i w' w'', i < n → bad i = false → F w w' → St i w' w'' → Bs w' → Bs w'') (hB0 : Bs { w with drawn := w.drawn + 1 }) (hS : parStepsBG F St (earlyB .any all n bad) Bs P .any all Q V t w (all.take n) 0)
    (hD : ∀ x w', F w w' → holds V w' x (live n dead) → wpList P all.toArray Q (all.drop n) { tmps := fill (all.take n) 0 x t, defers := df } w') :
    (Code.region id all.toArray true).wp P Q { tmps := t, defers := df } w := by
  have e : all = all.take n ++ all.drop n := (List.take_append_drop n all).symm
  have hl : (all.take n).length = n := by simp at hn ⊢; omega
  refine wp_region_any hm ?_
  generalize hlz : all.take n = l at *
  generalize all.drop n = zs at *
  subst e
  subst hl
  have hS' := parStepsBG_of (df := df) hA hT hsz (k := 0) (by simp) hS
  have h := wpAny_parG (V := V) hA hT hW hF hV hDead hB hS' hD (l ++ zs).toArray.size (Array.replicate (l ++ zs).toArray.size false) (fun i => ((l[i]?).bind (·.dst)).elim undef fun d => t.getD d undef) { w with drawn := w.drawn + 1 } (by simp) (fun i _ hi => by simp at hi; simp [Array.getElem?_replicate, hi]) (fun j o _ hj => by rw [Array.getElem?_replicate] at hj; split at hj <;> cases hj)
    (by simp) hF0 (fun i _ hi => by rw [Array.getElem?_replicate] at hi; split at hi <;> cases hi) (fun _ => hB0)
  rw [fill_id] at h
  · exact h
  · intro i o d ho hd
    rw [Nat.zero_add, ho]
    simp [hd]
theorem wp_region_keepsB {P : Program} {id : Nat} {Q : Exit → Act → World → Prop} {t : Array Value} {df : List Deferred} {w : World} {all : List Oper} (L : List Nat) (mt : List Bool) (frag : List (Option Nat)) (Bs : World → Prop) (Vs : List (World → Value → Prop)) (n : Nat) (hn : decide (n ≤ all.length) = true) (hm : P.follows .mixedOrders = true)
    (hA : apartB (all.take n) = true) (hT : topoB .any all = true) (hsz : ((all.take n).all fun o => match o.dst with | some d => decide (d < t.size) | none => true) = true) (hW : tailB .any all n = true)
    (hfr : fragB all n mt frag = true) (hDead : deadB .any all n (deadC frag) = true) (hV : KeepsC w.heap.size L frag Vs) (hB : ∀ w w', Fr [] w w' → Bs w → Bs w') (hB0 : Bs w)
    (hS : parStepsBG (Fr L) (fun i => stC w.heap.size L (mt.getD i false)) (earlyB .any all n fun k => mt.getD k false) Bs P .any all Q (Go.Proofs.YtodlbajpcbdbaaaDoor.nth Vs) t w (all.take n) 0)
    (hD : ∀ x w', Fr L w w' → holds (Go.Proofs.YtodlbajpcbdbaaaDoor.nth Vs) w' x (live n (deadC frag)) → wpList P all.toArray Q (all.drop n) { tmps := fill (all.take n) 0 x t, defers := df } w') :
    (Code.region id all.toArray true).wp P Q { tmps := t, defers := df } w := by
  refine wp_region_keepsGB (Fr L) (fun i => stC w.heap.size L (mt.getD i false)) (fun k => mt.getD k false) Bs (deadC frag) (Go.Proofs.YtodlbajpcbdbaaaDoor.nth Vs) n hn hm hA hT hsz hW ((Fr.refl L w).drewN 1) ?_ ?_ hDead (fun i w' w'' _ hb _ hs h => by rw [hb] at hs; exact hB _ _ hs h) (hB _ _ ((Fr.refl [] w).drewN 1) hB0) hS hD
  · intro i w' w'' hi hf hs
    cases hmu : mt.getD i false with
    | false => rw [hmu] at hs; exact hf.trans hs (fun _ hx => by cases hx)
    | true => rw [hmu] at hs; obtain ⟨M, h1, h2⟩ := hs; exact hf.trans h1 h2
  · intro i j w' w'' v hi hj hij hd hb hnc hf hs hv
    have hk := hV.nth i
    cases hfi : frag.getD i none with
    | none =>
      rw [hfi, if_pos rfl] at hk
      cases hmu : mt.getD j false with
      | false => rw [hmu] at hs; exact hk [] _ _ _ (fun _ hx => by cases hx) hs hv
      | true => rw [hmu] at hs; obtain ⟨M, h1, h2⟩ := hs; exact hk M _ _ _ h2 h1 hv
    | some c =>
      rw [hfi, if_neg (by simp)] at hk
      cases hmu : mt.getD j false with
      | false => rw [hmu] at hs; exact hk _ _ _ hs hv
      | true =>
        exfalso
        simp only [fragB, List.all_eq_true, List.mem_range] at hfr
        have h1 := hfr i hi
        rw [hfi] at h1
        simp only [List.all_eq_true, List.mem_range, Bool.or_eq_true, Bool.not_eq_true', beq_iff_eq, Bool.and_eq_true, decide_eq_true_eq] at h1
        have h2 := h1 j hj
        rw [hmu, hb] at h2
        simp only [deadC, hfi] at hd
        rcases h2 with (((h2 | h2) | h2) | h2) | h2
        · cases h2
        · exact hij h2.symm
        · subst h2; simp at hd
        · cases h2
        · rw [hnc c h2.1 (by unfold deadC; rw [hfi]; simp)] at h2
          cases h2.2

end Go.Proofs.YtodlbajpcbdbaaaDoor
namespace Go.Proofs.YtodlbajpcbdbaaaDoor.U8
open Go.RowKit
set_option linter.unusedVariables false
set_option linter.unusedSimpArgs false
set_option maxRecDepth 100000
open Go.ChangeMaps Go.MapKept

def OnlyMap (w : World) (M y : Nat) : Prop := M ≤ y ∧ (∃ l c, w.heap[y]? = some (.map (ents l) c)) ∧ ∀ z l c, M ≤ z → w.heap[z]? = some (.map l c) → z = y
def NoMap (w : World) (M : Nat) : Prop := ∀ z l c, M ≤ z → w.heap[z]? ≠ some (.map l c)
/-- What an operation of such a region does: it comes to a value; it lays the map; it comes to the map; it puts a key; it lays a cell. -/
inductive MK where
  | val (x : Value)
  | mk
  | mv
  | ins (k : Int) (x : Value)
  | cell (cs : Array Value) (t : TypeId)
def MK.fact (M : Nat) : MK → World → Value → Prop
  | .val x => fun _ v => v = x
  | .mk => fun w v => ∃ y, v = .map (some y) ∧ OnlyMap w M y
  | .mv => fun w v => ∃ y, v = .map (some y) ∧ OnlyMap w M y
  | .ins k x => fun w _ => ∃ y l c, OnlyMap w M y ∧ w.heap[y]? = some (.map (ents l) c) ∧ get l k = some x
  | .cell cs t => fun w v => ∃ x, v = .pointer (some ⟨x, 0, none⟩) ∧ M ≤ x ∧ Blk w x cs t
def MK.step (M : Nat) : MK → World → World → Prop
  | .val _ => fun w w' => w' = w
  | .mk => fun w w' => w' = w.alloc (.map #[] 0) ∧ NoMap w M
  | .mv => fun w w' => w' = w
  | .ins k x => fun w w' => ∃ y l c l' c', OnlyMap w M y ∧ w.heap[y]? = some (.map (ents l) c) ∧ w' = setBlock w y (.map (ents l') c') ∧ ∀ m, get l' m = if m = k then some x else get l m
  | .cell cs t => fun w w' => w' = w.alloc (.cells cs t)
def MK.key : MK → Option Int
  | .ins k _ => some k
  | _ => none
def MK.bad : MK → Bool
  | .mk => true
  | _ => false
theorem setBlk_far {w : World} {b c : Nat} {o : Obj} (h : c ≠ b) : (setBlock w b o).heap[c]? = w.heap[c]? := by
  simp [setBlock, Array.getElem?_setIfInBounds, Ne.symm h]
theorem setBlk_same {w : World} {b : Nat} {o p : Obj} (h : w.heap[b]? = some p) : (setBlock w b o).heap[b]? = some o := by
  have := (Array.getElem?_eq_some_iff.1 h).1
  simp [setBlock, this]
theorem _root_.Go.Proofs.YtodlbajpcbdbaaaDoor.Fr.setBlk8 {L : List Nat} {a w : World} (h : Fr L a w) {b : Nat} (o : Obj) (hb : b ∈ L ∨ a.heap.size ≤ b) : Fr L a (setBlock w b o) :=
  h.trans (M := [b]) ⟨rfl, rfl, rfl, by simp [setBlock], fun k hk hn => setBlk_far (by simpa using hn)⟩ (fun x hx => by simp at hx; subst hx; exact hb)
theorem heap_alloc_some {w : World} {b : Nat} {o p : Obj} (h : w.heap[b]? = some p) : (w.alloc o).heap[b]? = some p := by
  have := (Array.getElem?_eq_some_iff.1 h).1
  show (w.heap.push o)[b]? = _
  rw [Array.getElem?_push]
  rw [if_neg (by omega)]
  exact h
theorem heap_alloc_at {w : World} {o p : Obj} {z : Nat} (h : (w.alloc o).heap[z]? = some p) : w.heap[z]? = some p ∨ p = o := by
  change (w.heap.push o)[z]? = some p at h
  rw [Array.getElem?_push] at h
  split at h
  · right; simpa using h.symm
  · exact .inl h
theorem OnlyMap.cell {w : World} {M y : Nat} (h : OnlyMap w M y) (cs : Array Value) (t : TypeId) : OnlyMap (w.alloc (.cells cs t)) M y := by
  obtain ⟨h1, ⟨l, c, h2⟩, h3⟩ := h
  refine ⟨h1, ⟨l, c, heap_alloc_some h2⟩, fun z l' c' hz e => ?_⟩
  rcases heap_alloc_at e with e | e
  · exact h3 z l' c' hz e
  · cases e
theorem OnlyMap.put {w : World} {M y : Nat} (h : OnlyMap w M y) (l' : List IE) (c' : Nat) : OnlyMap (setBlock w y (.map (ents l') c')) M y := by
  obtain ⟨h1, ⟨l, c, h2⟩, h3⟩ := h
  refine ⟨h1, ⟨l', c', setBlk_same h2⟩, fun z l0 c0 hz e => ?_⟩
  by_cases hzy : z = y
  · exact hzy
  · rw [setBlk_far hzy] at e
    exact h3 z l0 c0 hz e
theorem OnlyMap.new {w : World} {M : Nat} (h : NoMap w M) (hM : M ≤ w.heap.size) : OnlyMap (w.alloc (.map #[] 0)) M w.heap.size := by
  refine ⟨hM, ⟨[], 0, ?_⟩, fun z l c hz e => ?_⟩
  · show (w.heap.push _)[w.heap.size]? = _
    simp
  · by_cases hzs : z = w.heap.size
    · exact hzs
    · exfalso
      change (w.heap.push _)[z]? = _ at e
      rw [Array.getElem?_push, if_neg hzs] at e
      exact h z l c hz e
theorem OnlyMap.uniq {w : World} {M y z : Nat} (h : OnlyMap w M y) (h' : OnlyMap w M z) : z = y := by
  obtain ⟨h1, ⟨l, c, h2⟩, _⟩ := h'
  exact h.2.2 z _ c h1 h2
theorem ents_inj : ∀ (a b : List IE), ents a = ents b → a = b := by
  have inj : ∀ (a b : List IE), a.map IE.e = b.map IE.e → a = b := by
    intro a
    induction a with
    | nil => intro b hb; cases b with | nil => rfl | cons _ _ => simp at hb
    | cons x r ih =>
      intro b hb
      cases b with
      | nil => simp at hb
      | cons y q =>
        simp only [List.map_cons, List.cons.injEq] at hb
        have hxy : x = y := by
          have := hb.1
          cases x; cases y
          simp only [IE.e, MapEntry.mk.injEq, Value.int.injEq] at this
          simp [this]
        rw [hxy, ih q hb.2]
  intro a b e
  exact inj a b (by simpa [ents] using e)
/-- A fact outlives another operation's step. -/
theorem MK.keep {M : Nat} {i j : MK} {w w' : World} {v : Value} (hk : ∀ k, i.key = some k → j.key ≠ some k) (hs : j.step M w w') (h : i.fact M w v) : i.fact M w' v := by
  cases j with
  | val x => simp only [MK.step] at hs; subst hs; exact h
  | mv => simp only [MK.step] at hs; subst hs; exact h
  | mk =>
    simp only [MK.step] at hs
    obtain ⟨rfl, hn⟩ := hs
    have bad : ∀ {y}, OnlyMap w M y → False := fun ho => by obtain ⟨h1, ⟨l, c, h2⟩, _⟩ := ho; exact hn _ _ c h1 h2
    cases i with
    | val y => exact h
    | mk => obtain ⟨y, _, ho⟩ := h; exact (bad ho).elim
    | mv => obtain ⟨y, _, ho⟩ := h; exact (bad ho).elim
    | ins k y => obtain ⟨y, _, _, ho, _⟩ := h; exact (bad ho).elim
    | cell cs t => obtain ⟨x, h1, h2, h3⟩ := h; exact ⟨x, h1, h2, h3.alloc _⟩
  | cell cs t =>
    simp only [MK.step] at hs
    subst hs
    cases i with
    | val y => exact h
    | mk => obtain ⟨y, h1, ho⟩ := h; exact ⟨y, h1, ho.cell _ _⟩
    | mv => obtain ⟨y, h1, ho⟩ := h; exact ⟨y, h1, ho.cell _ _⟩
    | ins k y => obtain ⟨y, l, c, ho, h1, h2⟩ := h; exact ⟨y, l, c, ho.cell _ _, heap_alloc_some h1, h2⟩
    | cell cs t => obtain ⟨x, h1, h2, h3⟩ := h; exact ⟨x, h1, h2, h3.alloc _⟩
  | ins k x =>
    simp only [MK.step] at hs
    obtain ⟨y, l, c, l', c', ho, h1, rfl, h2⟩ := hs
    cases i with
    | val z => exact h
    | mk => obtain ⟨z, e, hz⟩ := h; obtain rfl := ho.uniq hz; exact ⟨z, e, ho.put _ _⟩
    | mv => obtain ⟨z, e, hz⟩ := h; obtain rfl := ho.uniq hz; exact ⟨z, e, ho.put _ _⟩
    | cell cs t =>
      obtain ⟨z, e1, e2, e3⟩ := h
      refine ⟨z, e1, e2, ?_⟩
      have hne : z ≠ y := fun e => by subst e; rw [Blk, h1] at e3; cases e3
      rw [Blk, setBlk_far hne]
      exact e3
    | ins k' z =>
      obtain ⟨y0, l0, c0, hz, h3, h4⟩ := h
      obtain rfl := ho.uniq hz
      rw [h1] at h3
      simp only [Option.some.injEq, Obj.map.injEq] at h3
      obtain rfl := ents_inj _ _ h3.1
      refine ⟨_, l', c', ho.put _ _, setBlk_same h1, ?_⟩
      rw [h2 k']
      have := hk k' rfl
      rw [if_neg (fun e => this (by rw [← e]; rfl))]
      exact h4
def keysB (ks : List MK) : Bool := (List.range ks.length).all fun i => (List.range ks.length).all fun j => i == j || (match (ks[i]?).bind MK.key with | some k => decide ((ks[j]?).bind MK.key ≠ some k) | none => true)
theorem wp_region_map {P : Program} {id : Nat} {Q : Exit → Act → World → Prop} {t : Array Value} {df : List Deferred} {w : World} {all : List Oper} (ks : List MK) (n : Nat) (hn : decide (n ≤ all.length) = true) (hm : P.follows .mixedOrders = true)
    (hA : apartB (all.take n) = true) (hT : topoB .any all = true) (hsz : ((all.take n).all fun o => match o.dst with | some d => decide (d < t.size) | none => true) = true) (hW : tailB .any all n = true)
    (hkl : decide (ks.length = n) = true) (hkk : keysB ks = true)
    (hS : parStepsBG (Fr []) (fun i => (ks.getD i (.val undef)).step w.heap.size) (earlyB .any all n fun k => (ks.getD k (.val undef)).bad) (fun w' => NoMap w' w.heap.size) P .any all Q (fun i => (ks.getD i (.val undef)).fact w.heap.size) t w (all.take n) 0)
    (hDead : deadB .any all n (fun _ _ => false) = true)
    (hD : ∀ x w', Fr [] w w' → holds (fun i => (ks.getD i (.val undef)).fact w.heap.size) w' x (live n (fun _ _ => false)) → wpList P all.toArray Q (all.drop n) { tmps := fill (all.take n) 0 x t, defers := df } w') :
    (Code.region id all.toArray true).wp P Q { tmps := t, defers := df } w := by
  refine wp_region_keepsGB (Fr []) (fun i => (ks.getD i (.val undef)).step w.heap.size) (fun k => (ks.getD k (.val undef)).bad) (fun w' => NoMap w' w.heap.size) (fun _ _ => false) (fun i => (ks.getD i (.val undef)).fact w.heap.size) n hn hm hA hT hsz hW ((Fr.refl _ w).drewN 1) ?_ ?_ hDead ?_ (fun z l c hz e => by have : z < w.heap.size := (Array.getElem?_eq_some_iff.1 e).1; omega) hS hD
  · intro i w' w'' hi hf hs
    cases hk : ks.getD i (.val undef) with
    | val x => rw [hk] at hs; simp only [MK.step] at hs; subst hs; exact hf
    | mv => rw [hk] at hs; simp only [MK.step] at hs; subst hs; exact hf
    | mk => rw [hk] at hs; obtain ⟨rfl, _⟩ := hs; exact hf.alloc _
    | cell cs t => rw [hk] at hs; simp only [MK.step] at hs; subst hs; exact hf.alloc _
    | ins k x => rw [hk] at hs; obtain ⟨y, l, c, l', c', ho, _, rfl, _⟩ := hs; exact hf.setBlk8 _ (.inr ho.1)
  · intro i j w' w'' v hi hj hij hd hb hnc hf hs hv
    refine MK.keep (fun k hk => ?_) hs hv
    simp only [keysB, List.all_eq_true, List.mem_range, Bool.or_eq_true, beq_iff_eq] at hkk
    simp only [decide_eq_true_eq] at hkl
    have h1 := (hkk i (by omega) j (by omega)).resolve_left hij
    have gi : ks[i]? = some (ks.getD i (.val undef)) := by rw [List.getD_eq_getElem?_getD, List.getElem?_eq_getElem (by omega)]; rfl
    have gj : ks[j]? = some (ks.getD j (.val undef)) := by rw [List.getD_eq_getElem?_getD, List.getElem?_eq_getElem (by omega)]; rfl
    rw [gi, gj] at h1
    simp only [Option.bind_some, hk, decide_eq_true_eq] at h1
    exact h1
  · intro i w' w'' hi hb hf hs h
    cases hk : ks.getD i (.val undef) with
    | val x => rw [hk] at hs; simp only [MK.step] at hs; subst hs; exact h
    | mv => rw [hk] at hs; simp only [MK.step] at hs; subst hs; exact h
    | mk => rw [hk] at hb; cases hb
    | cell cs t =>
      rw [hk] at hs
      simp only [MK.step] at hs
      subst hs
      intro z l c hz e
      rcases heap_alloc_at e with e | e
      · exact h z l c hz e
      · cases e
    | ins k x =>
      rw [hk] at hs
      obtain ⟨y, l, c, l', c', ho, h1, _, _⟩ := hs
      exact (h y _ c ho.1 h1).elim
end Go.Proofs.YtodlbajpcbdbaaaDoor.U8
namespace Go.Proofs.YtodlbajpcbdbaaaDoor.U8
open Go.RowKit Go.Shelf
set_option linter.unusedVariables false
set_option linter.unusedSimpArgs false
set_option maxRecDepth 100000

/-- A map of an event's numbers. -/
def FieldMap (w : World) (M E : Nat) : Prop := ∃ l c, w.heap[M]? = some (.map (ents l) c) ∧ get l 102 = some (.pointer (some ⟨E, 1, none⟩)) ∧ get l 116 = some (.pointer (some ⟨E, 2, none⟩)) ∧ get l 115 = some (.pointer (some ⟨E, 4, none⟩)) ∧ get l 97 = some (.pointer (some ⟨E, 5, none⟩)) ∧ get l 110 = some (.pointer (some ⟨E, 3, none⟩))
theorem FieldMap.fr {w w' : World} {M E : Nat} {L : List Nat} (h : FieldMap w M E) (f : Fr L w w') (hn : M ∉ L) : FieldMap w' M E := by
  obtain ⟨l, c, h1, h2⟩ := h
  exact ⟨l, c, f.keeps h1 hn, h2⟩
theorem FieldMap.of {w : World} {M N E : Nat} (h0 : OnlyMap w N M) (h1 : ∃ y l c, OnlyMap w N y ∧ w.heap[y]? = some (.map (ents l) c) ∧ get l 102 = some (.pointer (some ⟨E, 1, none⟩))) (h2 : ∃ y l c, OnlyMap w N y ∧ w.heap[y]? = some (.map (ents l) c) ∧ get l 116 = some (.pointer (some ⟨E, 2, none⟩))) (h3 : ∃ y l c, OnlyMap w N y ∧ w.heap[y]? = some (.map (ents l) c) ∧ get l 115 = some (.pointer (some ⟨E, 4, none⟩))) (h4 : ∃ y l c, OnlyMap w N y ∧ w.heap[y]? = some (.map (ents l) c) ∧ get l 97 = some (.pointer (some ⟨E, 5, none⟩))) (h5 : ∃ y l c, OnlyMap w N y ∧ w.heap[y]? = some (.map (ents l) c) ∧ get l 110 = some (.pointer (some ⟨E, 3, none⟩))) : FieldMap w M E := by
  obtain ⟨l, c, e⟩ := h0.2.1
  have key : ∀ {k : Int} {x : Value}, (∃ y l c, OnlyMap w N y ∧ w.heap[y]? = some (.map (ents l) c) ∧ get l k = some x) → get l k = some x := by
    rintro k x ⟨y', l', c', ho, e', g'⟩
    obtain rfl := h0.uniq ho
    rw [e] at e'
    simp only [Option.some.injEq, Obj.map.injEq] at e'
    rw [ents_inj _ _ e'.1]
    exact g'
  exact ⟨l, c, e, key h1, key h2, key h3, key h4, key h5⟩

set_option maxRecDepth 100000 in
set_option maxHeartbeats 4000000 in
theorem scr_fields (w : World) (E : Nat) (hE : E < w.heap.size) :
    Calls Tryd.prog 43 #[.pointer (some ⟨E, 0, none⟩)] w fun e w' => ∃ M, e = .returned (.map (some M)) ∧ FieldMap w' M E ∧ w.heap.size ≤ M ∧ Fr [] w w' := by
  go_enter Tryd.func43, Tryd.ntmps43
  go_wp2
  refine wp_region_map [.mk, .val (.pointer (some ⟨E, 0, none⟩)), .val (.pointer (some ⟨E, 0, none⟩)), .val (.pointer (some ⟨E, 1, none⟩)), .ins 102 (.pointer (some ⟨E, 1, none⟩)), .val (.pointer (some ⟨E, 0, none⟩)), .val (.pointer (some ⟨E, 0, none⟩)), .val (.pointer (some ⟨E, 2, none⟩)), .ins 116 (.pointer (some ⟨E, 2, none⟩)), .val (.pointer (some ⟨E, 0, none⟩)), .val (.pointer (some ⟨E, 0, none⟩)), .val (.pointer (some ⟨E, 4, none⟩)), .ins 115 (.pointer (some ⟨E, 4, none⟩)), .val (.pointer (some ⟨E, 0, none⟩)), .val (.pointer (some ⟨E, 0, none⟩)), .val (.pointer (some ⟨E, 5, none⟩)), .ins 97 (.pointer (some ⟨E, 5, none⟩)), .val (.pointer (some ⟨E, 0, none⟩)), .val (.pointer (some ⟨E, 0, none⟩)), .val (.pointer (some ⟨E, 3, none⟩)), .ins 110 (.pointer (some ⟨E, 3, none⟩))] 21 (by kernel_rfl) (by kernel_rfl) (by kernel_rfl) (by kernel_rfl) (by kernel_rfl) (by kernel_rfl) (by kernel_rfl) (by kernel_rfl) ?hS (by kernel_rfl) ?hD
  case hS =>
    (repeat' (first | exact trivial | refine And.intro ?_ ?_))
    · intro ac wx hf hbs hs hp K hK
      clear hp
      clear hs
      have HNM := Lib.hid (hbs (by kernel_rfl))
      have HF := Lib.hid hf
      clear hbs hf
      have hmm := @run_makeMap Tryd.prog
      go_simp
      try dsimp only
      exact hK.out _ _ ⟨rfl, HNM.out⟩ ⟨_, rfl, OnlyMap.new HNM.out HF.out.size⟩
    · intro ac wx hf hbs hs hp K hK
      clear hp
      have hs0 := hs 0 (by kernel_rfl)
      simp only [Array.getD_eq_getD_getElem?, List.getElem?_toArray, List.getElem?_cons_succ, List.getElem?_cons_zero, Option.getD_some] at hs0
      clear hs
      clear hf hbs
      skip
      go_simp
      try dsimp only
      exact hK.out _ _ rfl rfl
    · intro ac wx hf hbs hs hp K hK
      simp only [waits, holdsB, MK.fact, List.getD_cons_zero, List.getD_cons_succ, exists_const, List.filter_cons, List.filter_nil, List.map_cons, List.map_nil, Region.binds, if_true, true_and, and_true, Nat.reduceAdd, List.getElem?_cons_zero, List.getElem?_cons_succ, Option.bind_some, Array.getD_eq_getD_getElem?] at hp
      clear hs
      clear hf hbs
      (try simp only [hp])
      go_simp
      try dsimp only
      exact hK.out _ _ rfl rfl
    · intro ac wx hf hbs hs hp K hK
      simp only [waits, holdsB, MK.fact, List.getD_cons_zero, List.getD_cons_succ, exists_const, List.filter_cons, List.filter_nil, List.map_cons, List.map_nil, Region.binds, if_true, true_and, and_true, Nat.reduceAdd, List.getElem?_cons_zero, List.getElem?_cons_succ, Option.bind_some, Array.getD_eq_getD_getElem?] at hp
      clear hs
      clear hf hbs
      (try simp only [hp])
      go_simp
      try dsimp only
      exact hK.out _ _ rfl rfl
    · intro ac wx hf hbs hs hp K hK
      simp only [waits, holdsB, MK.fact, List.getD_cons_zero, List.getD_cons_succ, exists_const, List.filter_cons, List.filter_nil, List.map_cons, List.map_nil, Region.binds, if_true, true_and, and_true, Nat.reduceAdd, List.getElem?_cons_zero, List.getElem?_cons_succ, Option.bind_some, Array.getD_eq_getD_getElem?] at hp
      clear hs
      obtain ⟨h0, hv⟩ := hp
      clear hbs hf
      obtain ⟨y, e0, hy⟩ := h0
      obtain ⟨l, c, hmap⟩ := hy.2.1
      have HY := Lib.hid hy
      clear hy
      obtain ⟨l', c', hrun, hget⟩ := im_put (P := Tryd.prog) hmap Tryd.underlying111 Tryd.underlying5 102 (.pointer (some ⟨E, 1, none⟩))
      have HM := Lib.hid hmap
      have HG := Lib.hid hget
      clear hmap hget
      (try simp only [e0, hv])
      go_simp
      try dsimp only
      refine hK.out (.tuple #[]) _ ⟨y, l, c, l', c', HY.out, HM.out, rfl, HG.out⟩ ⟨y, l', c', HY.out.put _ _, setBlk_same HM.out, by rw [HG.out]; simp⟩
    · intro ac wx hf hbs hs hp K hK
      clear hp
      have hs0 := hs 0 (by kernel_rfl)
      simp only [Array.getD_eq_getD_getElem?, List.getElem?_toArray, List.getElem?_cons_succ, List.getElem?_cons_zero, Option.getD_some] at hs0
      clear hs
      clear hf hbs
      skip
      go_simp
      try dsimp only
      exact hK.out _ _ rfl rfl
    · intro ac wx hf hbs hs hp K hK
      simp only [waits, holdsB, MK.fact, List.getD_cons_zero, List.getD_cons_succ, exists_const, List.filter_cons, List.filter_nil, List.map_cons, List.map_nil, Region.binds, if_true, true_and, and_true, Nat.reduceAdd, List.getElem?_cons_zero, List.getElem?_cons_succ, Option.bind_some, Array.getD_eq_getD_getElem?] at hp
      clear hs
      clear hf hbs
      (try simp only [hp])
      go_simp
      try dsimp only
      exact hK.out _ _ rfl rfl
    · intro ac wx hf hbs hs hp K hK
      simp only [waits, holdsB, MK.fact, List.getD_cons_zero, List.getD_cons_succ, exists_const, List.filter_cons, List.filter_nil, List.map_cons, List.map_nil, Region.binds, if_true, true_and, and_true, Nat.reduceAdd, List.getElem?_cons_zero, List.getElem?_cons_succ, Option.bind_some, Array.getD_eq_getD_getElem?] at hp
      clear hs
      clear hf hbs
      (try simp only [hp])
      go_simp
      try dsimp only
      exact hK.out _ _ rfl rfl
    · intro ac wx hf hbs hs hp K hK
      simp only [waits, holdsB, MK.fact, List.getD_cons_zero, List.getD_cons_succ, exists_const, List.filter_cons, List.filter_nil, List.map_cons, List.map_nil, Region.binds, if_true, true_and, and_true, Nat.reduceAdd, List.getElem?_cons_zero, List.getElem?_cons_succ, Option.bind_some, Array.getD_eq_getD_getElem?] at hp
      clear hs
      obtain ⟨h0, hv⟩ := hp
      clear hbs hf
      obtain ⟨y, e0, hy⟩ := h0
      obtain ⟨l, c, hmap⟩ := hy.2.1
      have HY := Lib.hid hy
      clear hy
      obtain ⟨l', c', hrun, hget⟩ := im_put (P := Tryd.prog) hmap Tryd.underlying111 Tryd.underlying5 116 (.pointer (some ⟨E, 2, none⟩))
      have HM := Lib.hid hmap
      have HG := Lib.hid hget
      clear hmap hget
      (try simp only [e0, hv])
      go_simp
      try dsimp only
      refine hK.out (.tuple #[]) _ ⟨y, l, c, l', c', HY.out, HM.out, rfl, HG.out⟩ ⟨y, l', c', HY.out.put _ _, setBlk_same HM.out, by rw [HG.out]; simp⟩
    · intro ac wx hf hbs hs hp K hK
      clear hp
      have hs0 := hs 0 (by kernel_rfl)
      simp only [Array.getD_eq_getD_getElem?, List.getElem?_toArray, List.getElem?_cons_succ, List.getElem?_cons_zero, Option.getD_some] at hs0
      clear hs
      clear hf hbs
      skip
      go_simp
      try dsimp only
      exact hK.out _ _ rfl rfl
    · intro ac wx hf hbs hs hp K hK
      simp only [waits, holdsB, MK.fact, List.getD_cons_zero, List.getD_cons_succ, exists_const, List.filter_cons, List.filter_nil, List.map_cons, List.map_nil, Region.binds, if_true, true_and, and_true, Nat.reduceAdd, List.getElem?_cons_zero, List.getElem?_cons_succ, Option.bind_some, Array.getD_eq_getD_getElem?] at hp
      clear hs
      clear hf hbs
      (try simp only [hp])
      go_simp
      try dsimp only
      exact hK.out _ _ rfl rfl
    · intro ac wx hf hbs hs hp K hK
      simp only [waits, holdsB, MK.fact, List.getD_cons_zero, List.getD_cons_succ, exists_const, List.filter_cons, List.filter_nil, List.map_cons, List.map_nil, Region.binds, if_true, true_and, and_true, Nat.reduceAdd, List.getElem?_cons_zero, List.getElem?_cons_succ, Option.bind_some, Array.getD_eq_getD_getElem?] at hp
      clear hs
      clear hf hbs
      (try simp only [hp])
      go_simp
      try dsimp only
      exact hK.out _ _ rfl rfl
    · intro ac wx hf hbs hs hp K hK
      simp only [waits, holdsB, MK.fact, List.getD_cons_zero, List.getD_cons_succ, exists_const, List.filter_cons, List.filter_nil, List.map_cons, List.map_nil, Region.binds, if_true, true_and, and_true, Nat.reduceAdd, List.getElem?_cons_zero, List.getElem?_cons_succ, Option.bind_some, Array.getD_eq_getD_getElem?] at hp
      clear hs
      obtain ⟨h0, hv⟩ := hp
      clear hbs hf
      obtain ⟨y, e0, hy⟩ := h0
      obtain ⟨l, c, hmap⟩ := hy.2.1
      have HY := Lib.hid hy
      clear hy
      obtain ⟨l', c', hrun, hget⟩ := im_put (P := Tryd.prog) hmap Tryd.underlying111 Tryd.underlying5 115 (.pointer (some ⟨E, 4, none⟩))
      have HM := Lib.hid hmap
      have HG := Lib.hid hget
      clear hmap hget
      (try simp only [e0, hv])
      go_simp
      try dsimp only
      refine hK.out (.tuple #[]) _ ⟨y, l, c, l', c', HY.out, HM.out, rfl, HG.out⟩ ⟨y, l', c', HY.out.put _ _, setBlk_same HM.out, by rw [HG.out]; simp⟩
    · intro ac wx hf hbs hs hp K hK
      clear hp
      have hs0 := hs 0 (by kernel_rfl)
      simp only [Array.getD_eq_getD_getElem?, List.getElem?_toArray, List.getElem?_cons_succ, List.getElem?_cons_zero, Option.getD_some] at hs0
      clear hs
      clear hf hbs
      skip
      go_simp
      try dsimp only
      exact hK.out _ _ rfl rfl
    · intro ac wx hf hbs hs hp K hK
      simp only [waits, holdsB, MK.fact, List.getD_cons_zero, List.getD_cons_succ, exists_const, List.filter_cons, List.filter_nil, List.map_cons, List.map_nil, Region.binds, if_true, true_and, and_true, Nat.reduceAdd, List.getElem?_cons_zero, List.getElem?_cons_succ, Option.bind_some, Array.getD_eq_getD_getElem?] at hp
      clear hs
      clear hf hbs
      (try simp only [hp])
      go_simp
      try dsimp only
      exact hK.out _ _ rfl rfl
    · intro ac wx hf hbs hs hp K hK
      simp only [waits, holdsB, MK.fact, List.getD_cons_zero, List.getD_cons_succ, exists_const, List.filter_cons, List.filter_nil, List.map_cons, List.map_nil, Region.binds, if_true, true_and, and_true, Nat.reduceAdd, List.getElem?_cons_zero, List.getElem?_cons_succ, Option.bind_some, Array.getD_eq_getD_getElem?] at hp
      clear hs
      clear hf hbs
      (try simp only [hp])
      go_simp
      try dsimp only
      exact hK.out _ _ rfl rfl
    · intro ac wx hf hbs hs hp K hK
      simp only [waits, holdsB, MK.fact, List.getD_cons_zero, List.getD_cons_succ, exists_const, List.filter_cons, List.filter_nil, List.map_cons, List.map_nil, Region.binds, if_true, true_and, and_true, Nat.reduceAdd, List.getElem?_cons_zero, List.getElem?_cons_succ, Option.bind_some, Array.getD_eq_getD_getElem?] at hp
      clear hs
      obtain ⟨h0, hv⟩ := hp
      clear hbs hf
      obtain ⟨y, e0, hy⟩ := h0
      obtain ⟨l, c, hmap⟩ := hy.2.1
      have HY := Lib.hid hy
      clear hy
      obtain ⟨l', c', hrun, hget⟩ := im_put (P := Tryd.prog) hmap Tryd.underlying111 Tryd.underlying5 97 (.pointer (some ⟨E, 5, none⟩))
      have HM := Lib.hid hmap
      have HG := Lib.hid hget
      clear hmap hget
      (try simp only [e0, hv])
      go_simp
      try dsimp only
      refine hK.out (.tuple #[]) _ ⟨y, l, c, l', c', HY.out, HM.out, rfl, HG.out⟩ ⟨y, l', c', HY.out.put _ _, setBlk_same HM.out, by rw [HG.out]; simp⟩
    · intro ac wx hf hbs hs hp K hK
      clear hp
      have hs0 := hs 0 (by kernel_rfl)
      simp only [Array.getD_eq_getD_getElem?, List.getElem?_toArray, List.getElem?_cons_succ, List.getElem?_cons_zero, Option.getD_some] at hs0
      clear hs
      clear hf hbs
      skip
      go_simp
      try dsimp only
      exact hK.out _ _ rfl rfl
    · intro ac wx hf hbs hs hp K hK
      simp only [waits, holdsB, MK.fact, List.getD_cons_zero, List.getD_cons_succ, exists_const, List.filter_cons, List.filter_nil, List.map_cons, List.map_nil, Region.binds, if_true, true_and, and_true, Nat.reduceAdd, List.getElem?_cons_zero, List.getElem?_cons_succ, Option.bind_some, Array.getD_eq_getD_getElem?] at hp
      clear hs
      clear hf hbs
      (try simp only [hp])
      go_simp
      try dsimp only
      exact hK.out _ _ rfl rfl
    · intro ac wx hf hbs hs hp K hK
      simp only [waits, holdsB, MK.fact, List.getD_cons_zero, List.getD_cons_succ, exists_const, List.filter_cons, List.filter_nil, List.map_cons, List.map_nil, Region.binds, if_true, true_and, and_true, Nat.reduceAdd, List.getElem?_cons_zero, List.getElem?_cons_succ, Option.bind_some, Array.getD_eq_getD_getElem?] at hp
      clear hs
      clear hf hbs
      (try simp only [hp])
      go_simp
      try dsimp only
      exact hK.out _ _ rfl rfl
    · intro ac wx hf hbs hs hp K hK
      simp only [waits, holdsB, MK.fact, List.getD_cons_zero, List.getD_cons_succ, exists_const, List.filter_cons, List.filter_nil, List.map_cons, List.map_nil, Region.binds, if_true, true_and, and_true, Nat.reduceAdd, List.getElem?_cons_zero, List.getElem?_cons_succ, Option.bind_some, Array.getD_eq_getD_getElem?] at hp
      clear hs
      obtain ⟨h0, hv⟩ := hp
      clear hbs hf
      obtain ⟨y, e0, hy⟩ := h0
      obtain ⟨l, c, hmap⟩ := hy.2.1
      have HY := Lib.hid hy
      clear hy
      obtain ⟨l', c', hrun, hget⟩ := im_put (P := Tryd.prog) hmap Tryd.underlying111 Tryd.underlying5 110 (.pointer (some ⟨E, 3, none⟩))
      have HM := Lib.hid hmap
      have HG := Lib.hid hget
      clear hmap hget
      (try simp only [e0, hv])
      go_simp
      try dsimp only
      refine hK.out (.tuple #[]) _ ⟨y, l, c, l', c', HY.out, HM.out, rfl, HG.out⟩ ⟨y, l', c', HY.out.put _ _, setBlk_same HM.out, by rw [HG.out]; simp⟩
  case hD =>
    intro xv wx hf hp
    simp only [List.take_succ_cons, List.take_zero, List.drop_succ_cons, List.drop_zero, fill, List.setIfInBounds_toArray, List.set_cons_zero, List.set_cons_succ, Nat.reduceAdd, Act.put]
    rw [show live 21 (fun _ _ => false) = [0, 1, 2, 3, 4, 5, 6, 7, 8, 9, 10, 11, 12, 13, 14, 15, 16, 17, 18, 19, 20] from by decide] at hp
    simp only [holds, MK.fact, List.getD_cons_zero, List.getD_cons_succ, true_and, and_true] at hp
    obtain ⟨p0, p1, p2, p3, p4, p5, p6, p7, p8, p9, p10, p11, p12, p13, p14, p15, p16, p17, p18, p19, p20⟩ := hp
    obtain ⟨M, e0, hM⟩ := p0
    have HP := Lib.hid (And.intro hf (And.intro hM (And.intro p4 (And.intro p8 (And.intro p12 (And.intro p16 p20))))))
    clear hf hM p4 p8 p12 p16 p20
    simp only [e0]
    go_wp2
    go_ret
    obtain ⟨f, hm, q1, q2, q3, q4, q5⟩ := HP.out
    exact ⟨M, rfl, FieldMap.of hm q1 q2 q3 q4 q5, hm.1, f⟩
end Go.Proofs.YtodlbajpcbdbaaaDoor.U8
namespace Go.Proofs.YtodlbajpcbdbaaaDoor
open Go.RowKit Go.Shelf
set_option linter.unusedVariables false
set_option linter.unusedSimpArgs false
set_option maxRecDepth 100000

abbrev EV.arr (e : EV) (s : Sl) : Array Value := #[.int .i64 e.d, .int .i64 e.fr, .int .i64 e.to, .int .i64 e.n, .int .i64 e.sap, .int .i64 e.far, .bool e.po, .slice s.A s.n s.c]
def EvPost (w : World) (ws : List (List UInt8)) (e : Ending) (w' : World) : Prop := Fr [] w w' ∧ match eventM ws with
  | some ev => ∃ s : Sl, e = .returned (.tuple #[.agg (ev.arr s), .bool true]) ∧ Bts 0 w' s (bytesI ev.b)
  | none => ∃ (ev : EV) (s : Sl), e = .returned (.tuple #[.agg (ev.arr s), .bool false])
def hitB (ws : List (List UInt8)) (s : SH) : Bool := s.2.1 == ws.headD [] && ws.length == 1 + s.2.2.length
theorem find_first {α : Type} {p : α → Bool} : ∀ {l : List α} {k : Nat} {a : α}, l[k]? = some a → p a = true → (∀ j, j < k → ∀ b, l[j]? = some b → p b = false) → l.find? p = some a
  | x :: r, 0, a, h, hp, _ => by simp at h; subst h; simp [hp]
  | x :: r, k + 1, a, h, hp, hn => by
    have hx := hn 0 (by omega) x rfl
    rw [List.find?_cons, hx]
    exact find_first (by simpa using h) hp fun j hj b hb => hn (j + 1) (by omega) b (by simpa using hb)
  | [], _, _, h, _, _ => by simp at h
theorem find_nothing {α : Type} {p : α → Bool} {l : List α} (h : ∀ j, j < l.length → ∀ b, l[j]? = some b → p b = false) : l.find? p = none := by
  rw [List.find?_eq_none]
  intro x hx
  obtain ⟨j, hj, e⟩ := List.getElem_of_mem hx
  have := h j hj x (by rw [List.getElem?_eq_getElem hj, e])
  simp [this]
theorem shape_cells {w : World} {N n : Nat} {sl : Sl} {l : List SH} (h : w.ownsRow N 81 3 sl.v n (l.flatMap shC)) (hn : 0 < n) {k : Nat} {s : SH} (hk : l[k]? = some s) :
    ∃ b, sl.A = some ⟨b, 0, none⟩ ∧ w.cell? ⟨b, k * 3, none⟩ = some (.int .i64 s.1) ∧ w.cell? ⟨b, k * 3 + 1, none⟩ = some (sv s.2.1) ∧ w.cell? ⟨b, k * 3 + 2, none⟩ = some (sv s.2.2) := by
  obtain ⟨b, hA, hc⟩ := own_at h hn
  have hl : k < l.length := (List.getElem?_eq_some_iff.1 hk).1
  have hf : ∀ j, j < 3 → (l.flatMap shC)[k * 3 + j]? = (shC s)[j]? := fun j hj => by
    rw [flat_get shC 3 (fun _ => rfl) l k j hl hj]
    rw [List.getElem?_eq_getElem hl] at hk
    cases hk
    rfl
  exact ⟨b, hA, hc _ _ (hf 0 (by decide)), hc _ _ (hf 1 (by decide)), hc _ _ (hf 2 (by decide))⟩
theorem setAll_app : ∀ (a b : List UInt8) (x y : List (List UInt8)) (e : EV), a.length = x.length → setAll (a ++ b) (x ++ y) e = match setAll a x e with | some e' => setAll b y e' | none => none
  | [], b, [], y, e, _ => rfl
  | c :: a, b, w :: x, y, e, h => by
    simp only [List.cons_append, setAll]
    cases hs : setF e c w with
    | none => rfl
    | some e' => exact setAll_app a b x y e' (by simpa using h)
  | [], _, _ :: _, _, _, h => by simp at h
  | _ :: _, _, [], _, _, h => by simp at h
theorem ev_one (e : EV) (s : Sl) : (e.arr s).all (·.oneCell') = true := by simp [EV.arr, Value.oneCell']
theorem put_b (e : EV) (c : UInt8) (n : Int) : (e.put c n).b = e.b := by
  unfold EV.put
  split
  · rfl
  · split
    · rfl
    · split
      · rfl
      · split
        · rfl
        · split <;> rfl
def NumF (l : List UInt8) : World → Value → Prop := fun _ v => ∃ n, v = .tuple #[.int .i64 n, .bool (numM l).isSome] ∧ ∀ m, numM l = some m → n = m
def NumI (l : List UInt8) : World → Value → Prop := fun _ v => ∃ n, v = .int .i64 n ∧ ∀ m, numM l = some m → n = m
theorem NumF.keeps {l : List UInt8} : Keeps [] (NumF l) := fun _ _ _ _ h => h
theorem NumI.keeps {l : List UInt8} : Keeps [] (NumI l) := fun _ _ _ _ h => h
/-- Behind q words of an event's line. -/
structure InAt (w : World) (ws : List (List UInt8)) (sh : SH) (R M SB : Nat) (sw sx : ByteArray) (q : Nat) (ev : EV) (s : Sl) (wx : World) : Prop where
  e : Blk wx (R + 1) (ev.arr s) 63
  b : Bts 0 wx s (bytesI ev.b)
  r : Blk wx R ((EV.zero 0).arr Sl.nil) 63
  m : U8.FieldMap wx M (R + 1)
  sb : Blk wx SB #[.int .i64 sh.1, .string sw, .string sx] 81
  f : Fr [] w wx
  set : setAll (sh.2.2.take q) (ws.tail.take q) (EV.zero sh.1) = some ev
/-- Behind k shapes none of which fits. -/
structure EvAt (w : World) (ws : List (List UInt8)) (sl : Sl) (R k : Nat) (wr : World) : Prop where
  e : Blk wr (R + 1) ((EV.zero 0).arr Sl.nil) 63
  r : Blk wr R ((EV.zero 0).arr Sl.nil) 63
  f : Fr [] w wr
  no : ∀ j, j < k → ∀ b, shapesM[j]? = some b → hitB ws b = false
set_option maxRecDepth 100000 in
set_option maxHeartbeats 8000000 in
theorem scr_event (w : World) (WB N : Nat) (ws : List (List UInt8)) (sl : Sl) (hE : Env w) (hW : Blk w WB (strs ws) 9) (hS : w.ownsRow N 81 3 sl.v 25 (shapesM.flatMap shC)) (hne : 0 < ws.length) (hl : ws.length ≤ 1000000) (hs : ∀ x ∈ ws, x.length ≤ 1000000) :
    Calls Tryd.prog 21 #[.slice (some ⟨WB, 0, none⟩) ws.length ws.length, .slice sl.A sl.n sl.c] w (EvPost w ws) := by
  obtain ⟨s0, hs0, hv0⟩ := sv_ex ws[0]
  have hc0 := hW.cell 0 (strs_get hne)
  rw [hv0] at hc0
  have hd : ws.headD [] = s0.bytes := by rw [hs0]; cases ws with | nil => simp at hne | cons a b => rfl
  have hsn : sl.n = 25 := own_n hS
  obtain ⟨sb, hsA, -⟩ := shape_cells hS (by decide) (show shapesM[0]? = some _ from rfl)
  obtain ⟨A, n, c⟩ := sl
  simp only at hsA hsn
  subst hsA hsn
  have H0 : Hid (EvAt w ws ⟨some ⟨sb, 0, none⟩, 25, c⟩ w.heap.size 0 ((w.alloc (.cells ((EV.zero 0).arr Sl.nil) 63)).alloc (.cells ((EV.zero 0).arr Sl.nil) 63))) := Lib.hid (by
    refine ⟨?_, (Blk.new w _ _).alloc _, ((Fr.refl [] w).alloc _).alloc _, fun j hj => by omega⟩
    have := Blk.new (w.alloc (.cells ((EV.zero 0).arr Sl.nil) 63)) ((EV.zero 0).arr Sl.nil) 63
    simpa using this)
  have HE := Lib.hid (And.intro hE (And.intro hW (And.intro hs (And.intro hd (And.intro hS hc0)))))
  clear hE hW hs hd hS hs0 hv0 hc0
  go_enter Tryd.func21, Tryd.ntmps21
  go_wp2; go_step3; go_wp2; go_step3; go_wp2
  obtain ⟨R, hR⟩ : ∃ R, w.heap.size = R := ⟨_, rfl⟩
  rw [hR] at H0 ⊢
  have hRw := Lib.hid hR
  clear hR
  go_loopw [7, 15] (fun okv i wr => ∃ k : Nat, okv = .bool false ∧ i = .int .i64 (k : Int) ∧ k ≤ 25 ∧ EvAt w ws ⟨some ⟨sb, 0, none⟩, 25, c⟩ R k wr) (fun _ i _ => 25 - (intOf i).toNat)
  case atStart => exact ⟨0, rfl, rfl, by omega, H0.out⟩
  case round =>
    obtain ⟨k, rfl, rfl, hk, hq⟩ := hrel
    have HQ := Lib.hid hq
    by_cases hlt : k < 25
    · have d1 : (k : Int) < 25 := by omega
      obtain ⟨sh, hsh⟩ : ∃ sh, shapesM[k]? = some sh := ⟨_, List.getElem?_eq_getElem (show k < shapesM.length from hlt)⟩
      obtain ⟨b', hb', g0, g1, g2⟩ := shape_cells HE.out.2.2.2.2.1 (by decide) hsh
      simp only [Option.some.injEq, Addr.mk.injEq, and_true] at hb'
      subst hb'
      obtain ⟨sw, hsw, hvw⟩ := sv_ex sh.2.1
      obtain ⟨sx, hsx, hvx⟩ := sv_ex sh.2.2
      rw [hvw] at g1
      rw [hvx] at g2
      have g0 := hq.f.cell g0 (by simp)
      have g1 := hq.f.cell g1 (by simp)
      have g2 := hq.f.cell g2 (by simp)
      have HSH := Lib.hid (And.intro hsh (And.intro hsw hsx))
      clear hq hsh hsw hsx hvw hvx
      obtain ⟨SB, hSB⟩ : ∃ SB, wr.heap.size = SB := ⟨_, rfl⟩
      obtain ⟨m, hm⟩ : ∃ m, 1 + sx.size = m := ⟨_, rfl⟩
      have hsx6 : sx.size ≤ 6 := by have := (shape_ok (List.mem_of_getElem? HSH.out.1)).2.2.2.2.1; rw [← HSH.out.2.2] at this; exact this
      have ww : IntKind.i64.wrap (1 + (sx.size : Int)) = (m : Int) := by rw [IntWalk.i64_in _ (by omega)]; omega
      have wk : IntKind.i64.wrap ((k : Int) + 1) = (k : Int) + 1 := IntWalk.i64_in _ (by omega)
      have HW2 : Hid (∀ cs : Array Value, cs = #[.int .i64 sh.1, .string sw, .string sx] → Blk (wr.alloc (.cells cs 81)) SB #[.int .i64 sh.1, .string sw, .string sx] 81 ∧ EvAt w ws ⟨some ⟨sb, 0, none⟩, 25, c⟩ R k (wr.alloc (.cells cs 81))) := Lib.hid (fun cs e => by
        subst e
        rw [← hSB]
        have fa := (Fr.refl [] wr).alloc (.cells #[.int .i64 sh.1, .string sw, .string sx] 81)
        exact ⟨Blk.new _ _ _, HQ.out.e.fr fa (by simp), HQ.out.r.fr fa (by simp), HQ.out.f.tr fa, HQ.out.no⟩)
      have HM := Lib.hid (And.intro hSB hm)
      clear hm hSB
      go_wp2
      obtain ⟨hb2, hq2⟩ := HW2.out _ rfl
      rw [HM.out.1]
      obtain ⟨w2, hw2⟩ : ∃ w2, wr.alloc (.cells #[.int .i64 sh.1, .string sw, .string sx] 81) = w2 := ⟨_, rfl⟩
      rw [hw2] at hb2 hq2 ⊢
      have g0 := hb2.cell 0 rfl
      have g1 := hb2.cell 1 rfl
      have g2 := hb2.cell 2 rfl
      simp only [List.getElem_toArray, List.getElem_cons_zero, List.getElem_cons_succ] at g0 g1 g2
      have gw := hq2.f.cell HE.out.2.2.2.2.2 (by simp)
      have H2 := Lib.hid (And.intro hb2 hq2)
      clear hb2 hq2 hw2
      by_cases h1 : sw.bytes = s0.bytes
      · have q1 : (sw.toList == s0.toList) = true := by rw [ByteArray.toList_eq, ByteArray.toList_eq]; exact beq_iff_eq.2 h1
        have q1n : (sw.toList != s0.toList) = false := by rw [ByteArray.toList_eq, ByteArray.toList_eq, bne_eq_false_iff_eq]; exact h1
        by_cases h2 : ws.length = m
        · have q2 : ((ws.length : Int) == (m : Int)) = true := by rw [beq_iff_eq]; omega
          have q2n : ((ws.length : Int) != (m : Int)) = false := by rw [bne_eq_false_iff_eq]; omega
          have HH : Hid (findW (ws.headD []) ws.length = some sh ∧ ws.length = 1 + sx.size) := Lib.hid ⟨find_first HSH.out.1 (by rw [HE.out.2.2.2.1, ← h1, HSH.out.2.1, h2, ← HM.out.2, show sx.size = sh.2.2.length by rw [← HSH.out.2.2]; rfl]; simp) (fun j hj b hb => HQ.out.no j hj b hb), by have := HM.out.2; omega⟩
          clear h1 h2
          go_quiet (fail)
          have fd : Fr [] w2 (w2.drewN nq) := (Fr.refl [] w2).drewN nq
          have he3 := H2.out.2.e.fr fd (by simp)
          have hr3 := H2.out.2.r.fr fd (by simp)
          have hs3 := H2.out.1.fr fd (by simp)
          have hf3 := H2.out.2.f.tr fd
          obtain ⟨w3, hw3⟩ : ∃ w3, w2.drewN nq = w3 := ⟨_, rfl⟩
          rw [hw3] at he3 hr3 hs3 hf3 ⊢
          have c0 := he3.cell 0 rfl
          have z0 := he3.free 0
          simp only [List.getElem_toArray, List.getElem_cons_zero, EV.zero] at c0
          have g0 := hs3.cell 0 rfl
          simp only [List.getElem_toArray, List.getElem_cons_zero] at g0
          have hRE : R + 1 < w3.heap.size := he3.lt
          have fst : Fr [R + 1] w3 (w3.setCell ⟨R + 1, 0, none⟩ (.int .i64 sh.1)) := (Fr.refl [R + 1] w3).setCell _ (.inl (by simp))
          have H4 : Hid (Blk (w3.setCell ⟨R + 1, 0, none⟩ (.int .i64 sh.1)) (R + 1) ((EV.zero sh.1).arr Sl.nil) 63 ∧ Blk (w3.setCell ⟨R + 1, 0, none⟩ (.int .i64 sh.1)) R ((EV.zero 0).arr Sl.nil) 63 ∧ Blk (w3.setCell ⟨R + 1, 0, none⟩ (.int .i64 sh.1)) SB #[.int .i64 sh.1, .string sw, .string sx] 81 ∧ Fr [] w (w3.setCell ⟨R + 1, 0, none⟩ (.int .i64 sh.1))) := Lib.hid ⟨he3.set 0 _ rfl, hr3.fr fst (by simp), hs3.fr fst (fun hm => by simp at hm; subst hm; exact absurd (Blk.ty he3 hs3) (by decide)), hf3.tr' fst (by have := hRw.out; simp; omega)⟩
          have hfl := U8.scr_fields (w3.setCell ⟨R + 1, 0, none⟩ (.int .i64 sh.1)) (R + 1) H4.out.1.lt
          clear fd he3 hr3 hs3 hf3 hw3 fst g1 g2 gw
          go_wp2_with fail
          refine hfl.mono ?_
          rintro e w5 ⟨M, rfl, hm5, hMs, f5⟩
          have H5 : Hid (InAt w ws sh R M SB sw sx 0 (EV.zero sh.1) Sl.nil w5) := Lib.hid ⟨H4.out.1.fr f5 (by simp), Bts.nil _ _, H4.out.2.1.fr f5 (by simp), hm5, H4.out.2.2.1.fr f5 (by simp), H4.out.2.2.2.tr f5, rfl⟩
          have g2 := H5.out.sb.cell 2 rfl
          simp only [List.getElem_toArray, List.getElem_cons_zero, List.getElem_cons_succ] at g2
          have HMs := Lib.hid (show R + 1 < M by have h1 := H4.out.1.lt; omega)
          clear hfl hm5 f5 hMs c0 z0 g0 hRE
          go_wp2
          clear q1 q1n q2 q2n g2
          go_loopw [7, 41] (fun okv i wx => ∃ (q : Nat) (ev : EV) (s : Sl) (okb : Bool), okv = .bool okb ∧ i = .int .i64 (q : Int) ∧ q ≤ sx.size ∧ InAt w ws sh R M SB sw sx q ev s wx) (fun _ i _ => sx.size - (intOf i).toNat)
          case atStart => exact ⟨0, _, _, false, rfl, rfl, by omega, H5.out⟩
          case round =>
            obtain ⟨q, ev, s, okb, rfl, rfl, hq1, hi⟩ := hrel
            have HI := Lib.hid hi
            have hsxl : sh.2.2.length = sx.size := by rw [← HSH.out.2.2]; rfl
            by_cases hql : q < sx.size
            · have d2 : (q : Int) < (sx.size : Int) := by omega
              have hqw : 1 + q < ws.length := by have := HH.out.2; omega
              obtain ⟨sq, hsq, hvq⟩ := sv_ex ws[1 + q]
              have gq := (HE.out.2.1.fr hi.f (by simp)).cell (1 + q) (strs_get hqw)
              rw [hvq] at gq
              obtain ⟨j, hj⟩ : ∃ j, 1 + q = j := ⟨_, rfl⟩
              have wj : IntKind.i64.wrap (1 + (q : Int)) = (j : Int) := by rw [IntWalk.i64_in _ (by omega)]; omega
              have wq : IntKind.i64.wrap ((q : Int) + 1) = (q : Int) + 1 := IntWalk.i64_in _ (by omega)
              rw [hj] at gq
              have hj2 : j < ws.length := by omega
              have g2 := hi.sb.cell 2 rfl
              simp only [List.getElem_toArray, List.getElem_cons_zero, List.getElem_cons_succ] at g2
              have hsq6 : sq.size ≤ 1000000 := by have h1 := HE.out.2.2.1 ws[1 + q] (List.getElem_mem _); rw [← hsq] at h1; exact h1
              have hcl : sx[q] ∈ letters := (shape_ok (List.mem_of_getElem? HSH.out.1)).1 _ (by rw [← HSH.out.2.2]; exact List.getElem_mem (l := sx.data.toList) (by exact hql))
              have HSET : Hid (∀ r, setF ev sx[q] sq.bytes = r → match r with | some ev' => setAll (sh.2.2.take (q + 1)) (ws.tail.take (q + 1)) (EV.zero sh.1) = some ev' | none => eventM ws = none) := Lib.hid (fun r hr => by
                have t1 : sh.2.2.take (q + 1) = sh.2.2.take q ++ [sx[q]] := by
                  rw [← HSH.out.2.2, List.take_succ_eq_append_getElem (by exact hql)]; rfl
                have t2 : ws.tail.take (q + 1) = ws.tail.take q ++ [sq.bytes] := by
                  rw [List.take_succ_eq_append_getElem (by rw [List.length_tail]; omega), List.getElem_tail, hsq]
                  congr 3; omega
                have hlen : (sh.2.2.take q).length = (ws.tail.take q).length := by rw [List.length_take, List.length_take, List.length_tail, hsxl]; have := HH.out.2; omega
                cases r with
                | some ev' => simp only; rw [t1, t2, setAll_app _ _ _ _ _ hlen, hi.set]; simp only [setAll, hr]
                | none =>
                  simp only
                  unfold eventM
                  rw [HH.out.1]
                  simp only
                  have u1 : sh.2.2 = sh.2.2.take (q + 1) ++ sh.2.2.drop (q + 1) := (List.take_append_drop _ _).symm
                  have u2 : ws.tail = ws.tail.take (q + 1) ++ ws.tail.drop (q + 1) := (List.take_append_drop _ _).symm
                  rw [u1, u2, setAll_app _ _ _ _ _ (by rw [List.length_take, List.length_take, List.length_tail, hsxl]; have := HH.out.2; omega), t1, t2, setAll_app _ _ _ _ _ hlen, hi.set]
                  simp only [setAll, hr])
              have HX := Lib.hid (show ∀ (w' wz : World) (ev' : EV) (s' : Sl) (i : Nat) (v : Value), Fr [] w'.drew w'.drew → True from fun _ _ _ _ _ _ _ => trivial)
              have key : Hid (∀ (w6 : World) (i : Nat) (v : Value) (ev' : EV) (s' : Sl), Fr [] wr w6 → ev'.arr s' = (ev.arr s).setIfInBounds i v → setF ev sx[q] sq.bytes = some ev' → Bts 0 w6 s' (bytesI ev'.b) → InAt w ws sh R M SB sw sx (q + 1) ev' s' (w6.setCell ⟨R + 1, i, none⟩ v)) := Lib.hid (fun w6 i v ev' s' f6 ha hset hb => by
                have fst : Fr [R + 1] w6 (w6.setCell ⟨R + 1, i, none⟩ v) := (Fr.refl [R + 1] w6).setCell _ (.inl (by simp))
                have he6 := HI.out.e.fr f6 (by simp)
                have hs6 := HI.out.sb.fr f6 (by simp)
                refine ⟨he6.set i v ha, hb.frL fst (fun x hx => ⟨Nat.zero_le _, by simp at hx; subst hx; exact he6.noB (by decide)⟩), (HI.out.r.fr f6 (by simp)).fr fst (by simp), (HI.out.m.fr f6 (by simp)).fr fst (by have := HMs.out; simp; omega), hs6.fr fst (fun hm => by simp at hm; subst hm; exact absurd (Blk.ty he6 hs6) (by decide)), (HI.out.f.tr f6).tr' fst (by have := hRw.out; simp; omega), HSET.out _ hset⟩)
              have keyW : Hid (∀ (wz : World) (ev' : EV) (s' : Sl), Fr [R + 1] wr wz → Blk wz (R + 1) (ev'.arr s') 63 → setF ev sx[q] sq.bytes = some ev' → Bts 0 wz s' (bytesI ev'.b) → InAt w ws sh R M SB sw sx (q + 1) ev' s' wz) := Lib.hid (fun wz ev' s' fz he hset hb =>
                ⟨he, hb, HI.out.r.fr fz (by simp), HI.out.m.fr fz (by have := HMs.out; simp; omega), HI.out.sb.fr fz (fun hm => by simp at hm; subst hm; exact absurd (Blk.ty HI.out.e HI.out.sb) (by decide)), HI.out.f.tr' fz (by have := hRw.out; simp; omega), HSET.out _ hset⟩)
              have keyn : Hid (∀ (w6 : World) (i : Nat) (v : Value) (ev' : EV) (s' : Sl), Fr [] wr w6 → ev'.arr s' = (ev.arr s).setIfInBounds i v → Blk (w6.setCell ⟨R + 1, i, none⟩ v) (R + 1) (ev'.arr s') 63 ∧ Blk (w6.setCell ⟨R + 1, i, none⟩ v) R ((EV.zero 0).arr Sl.nil) 63 ∧ Fr [] w (w6.setCell ⟨R + 1, i, none⟩ v)) := Lib.hid (fun w6 i v ev' s' f6 ha => by
                have fst : Fr [R + 1] w6 (w6.setCell ⟨R + 1, i, none⟩ v) := (Fr.refl [R + 1] w6).setCell _ (.inl (by simp))
                exact ⟨(HI.out.e.fr f6 (by simp)).set i v ha, (HI.out.r.fr f6 (by simp)).fr fst (by simp), (HI.out.f.tr f6).tr' fst (by have := hRw.out; simp; omega)⟩)
              have HJ := Lib.hid hj
              clear hsq hvq hj HX
              have c6 := hi.e.cell 6 rfl
              have z6 := hi.e.free 6
              simp only [List.getElem_toArray, List.getElem_cons_zero, List.getElem_cons_succ] at c6
              clear hi
              by_cases hcp : sx[q] = 112
              · have qa : ((sx[q].toNat : Int) == 112) = true := by rw [hcp]; rfl
                by_cases hw1 : sq.bytes = [49]
                · have r1 : (sq.toList == [49]) = true := by rw [ByteArray.toList_eq]; exact beq_iff_eq.2 hw1
                  have r0 : (sq.toList == [48]) = false := by rw [ByteArray.toList_eq, beq_eq_false_iff_ne]; intro e; rw [show sq.data.toList = sq.bytes from rfl, hw1] at e; cases e
                  have HK := Lib.hid (key.out wr 6 (.bool true) { ev with po := true } s (Fr.refl _ _) rfl (by rw [hcp, hw1]; rfl) HI.out.b)
                  clear hw1 hcp
                  go_wp2
                  go_roundw
                  case rel => exact ⟨q + 1, _, _, true, rfl, by go_num, by omega, HK.out⟩
                  case measure => simp [intOf]; omega
                · have r1 : (sq.toList == [49]) = false := by rw [ByteArray.toList_eq, beq_eq_false_iff_ne]; exact hw1
                  by_cases hw0 : sq.bytes = [48]
                  · have r0 : (sq.toList == [48]) = true := by rw [ByteArray.toList_eq]; exact beq_iff_eq.2 hw0
                    have HK := Lib.hid (key.out wr 6 (.bool false) { ev with po := false } s (Fr.refl _ _) rfl (by rw [hcp, hw0]; rfl) HI.out.b)
                    clear hw1 hw0 hcp
                    go_wp2
                    go_roundw
                    case rel => exact ⟨q + 1, _, _, true, rfl, by go_num, by omega, HK.out⟩
                    case measure => simp [intOf]; omega
                  · have r0 : (sq.toList == [48]) = false := by rw [ByteArray.toList_eq, beq_eq_false_iff_ne]; exact hw0
                    have HN : Hid (eventM ws = none) := Lib.hid (HSET.out none (by unfold setF; rw [if_pos hcp, if_neg hw0, if_neg hw1]))
                    have HK := Lib.hid (keyn.out wr 6 (.bool false) { ev with po := false } s (Fr.refl _ _) rfl)
                    clear hw1 hw0 hcp
                    go_wp2_with (first | (refine wpList_load_row rfl 63 (.tmp 6) rfl (R + 1) rfl 63 (({ ev with po := false } : EV).arr s) (0, 0) _ HK.out.1 Tryd.underlying63 rfl (by kernel_rfl) ?_) | (refine wpList_store_row rfl 63 (.tmp 4) (.tmp 88) rfl R (({ ev with po := false } : EV).arr s) rfl rfl 63 ((EV.zero 0).arr Sl.nil) HK.out.2.1 (by kernel_rfl) rfl (ev_one _ _) ?_))
                    (try rw [Exit.noGoto_ret])
                    refine bodyPost_ret (v := .tuple #[.agg (({ ev with po := false } : EV).arr s), .bool false]) (results_cell_tmp Tryd.results21 _ _ R _ _ _ _ _ rfl rfl (HK.out.2.1).setRow Tryd.underlying63 rfl (by kernel_rfl)) rfl ⟨?_, ?_⟩
                    · exact (HK.out.2.2).setRow _ (.inr (by have := hRw.out; omega))
                    · rw [HN.out]; exact ⟨{ ev with po := false }, s, rfl⟩
              · have qa : ((sx[q].toNat : Int) == 112) = false := by
                  rw [beq_eq_false_iff_ne]; intro e; exact hcp (UInt8.toNat.inj (by rw [show (112 : UInt8).toNat = 112 from rfl]; omega))
                by_cases hcb : sx[q] = 98
                · have qb : ((sx[q].toNat : Int) == 98) = true := by rw [hcb]; rfl
                  have hraw := scr_raw wr sq hsq6
                  have HCB := Lib.hid hcb
                  clear hcp hcb
                  go_wp2_with fail
                  refine hraw.mono ?_
                  rintro e w6 ⟨f6, hm6⟩
                  have c7 := (HI.out.e.fr f6 (by simp)).cell 7 rfl
                  have z7 := (HI.out.e.fr f6 (by simp)).free 7
                  simp only [List.getElem_toArray, List.getElem_cons_zero, List.getElem_cons_succ] at c7
                  cases hrm : rawM sq.bytes with
                  | some b =>
                    rw [hrm] at hm6
                    obtain ⟨s6, rfl, hb6, -⟩ := hm6
                    have HK := Lib.hid (key.out w6 7 (.slice s6.A s6.n s6.c) { ev with b := b } s6 f6 rfl (by rw [HCB.out]; unfold setF; rw [if_neg (by decide), if_pos rfl, hrm]) hb6)
                    clear hrm hb6 f6 hraw
                    go_wp2
                    go_roundw
                    case rel => exact ⟨q + 1, _, _, true, rfl, by go_num, by omega, HK.out⟩
                    case measure => simp [intOf]; omega
                  | none =>
                    rw [hrm] at hm6
                    simp only at hm6
                    subst hm6
                    have HN : Hid (eventM ws = none) := Lib.hid (HSET.out none (by rw [HCB.out]; unfold setF; rw [if_neg (by decide), if_pos rfl, hrm]))
                    have HK := Lib.hid (keyn.out w6 7 (.slice none 0 0) { ev with b := [] } Sl.nil f6 rfl)
                    clear hrm f6 hraw
                    go_wp2_with (first | (refine wpList_load_row rfl 63 (.tmp 6) rfl (R + 1) rfl 63 (({ ev with b := [] } : EV).arr Sl.nil) (0, 0) _ HK.out.1 Tryd.underlying63 rfl (by kernel_rfl) ?_) | (refine wpList_store_row rfl 63 (.tmp 4) (.tmp 88) rfl R (({ ev with b := [] } : EV).arr Sl.nil) rfl rfl 63 ((EV.zero 0).arr Sl.nil) HK.out.2.1 (by kernel_rfl) rfl (ev_one _ _) ?_))
                    (try rw [Exit.noGoto_ret])
                    refine bodyPost_ret (v := .tuple #[.agg (({ ev with b := [] } : EV).arr Sl.nil), .bool false]) (results_cell_tmp Tryd.results21 _ _ R _ _ _ _ _ rfl rfl (HK.out.2.1).setRow Tryd.underlying63 rfl (by kernel_rfl)) rfl ⟨?_, ?_⟩
                    · exact (HK.out.2.2).setRow _ (.inr (by have := hRw.out; omega))
                    · rw [HN.out]; exact ⟨{ ev with b := [] }, Sl.nil, rfl⟩
                · have qb : ((sx[q].toNat : Int) == 98) = false := by
                    rw [beq_eq_false_iff_ne]; intro e; exact hcb (UInt8.toNat.inj (by rw [show (98 : UInt8).toNat = 98 from rfl]; omega))
                  obtain ⟨l, cl, hml, hg⟩ := HI.out.m
                  obtain ⟨o, ho1, ho2, ho3⟩ : ∃ o, U8.get l (sx[q].toNat : Int) = some (.pointer (some ⟨R + 1, o, none⟩)) ∧ (∀ n, (ev.put sx[q] n).arr s = (ev.arr s).setIfInBounds o (.int .i64 n)) ∧ ∃ x : Int, (ev.arr s)[o]? = some (.int .i64 x) := by
                    obtain ⟨g1, g2, g3, g4, g5⟩ := hg
                    simp only [letters, List.mem_cons, List.not_mem_nil, or_false] at hcl
                    rcases hcl with h | h | h | h | h | h | h
                    · rw [h]; exact ⟨_, g1, fun n => rfl, _, rfl⟩
                    · rw [h]; exact ⟨_, g2, fun n => rfl, _, rfl⟩
                    · rw [h]; exact ⟨_, g3, fun n => rfl, _, rfl⟩
                    · rw [h]; exact ⟨_, g4, fun n => rfl, _, rfl⟩
                    · rw [h]; exact ⟨_, g5, fun n => rfl, _, rfl⟩
                    · exact absurd h hcp
                    · exact absurd h hcb
                  have HPUT : Hid (∀ n, (∀ m, numM sq.bytes = some m → n = m) → (numM sq.bytes).isSome = true → setF ev sx[q] sq.bytes = some (ev.put sx[q] n)) := Lib.hid (fun n hn hsome => by
                    obtain ⟨m, hm⟩ := Option.isSome_iff_exists.1 hsome
                    unfold setF
                    rw [if_neg hcp, if_neg hcb, hm, hn m hm])
                  have HNONE : Hid ((numM sq.bytes).isSome = false → eventM ws = none) := Lib.hid (fun hnone => HSET.out none (by
                    unfold setF
                    rw [if_neg hcp, if_neg hcb]
                    cases hm : numM sq.bytes with
                    | none => rfl
                    | some m => rw [hm] at hnone; cases hnone))
                  have HO := Lib.hid (And.intro ho2 ho3)
                  have hsq9 : sq.size ≤ 281474976710656 := by omega
                  have hql2 : q < sx.size := hql
                  obtain ⟨xo, hxo⟩ := ho3
                  have nSB : SB ∉ [R + 1] := fun hm => by simp at hm; subst hm; exact absurd (Blk.ty HI.out.e HI.out.sb) (by decide)
                  have nM : M ∉ [R + 1] := by have := HMs.out; simp; omega
                  have k0 : ∀ wy, Fr [R + 1] wr wy → wy.cell? ⟨SB, 2, none⟩ = some (.string sx) ∧ (Instr.lookup 111 (.map (some M)) (.int .u8 (sx[q].toNat : Int)) false).run Tryd.prog wy = .ok (.pointer (some ⟨R + 1, o, none⟩)) wy := fun wy hf => ⟨hf.cell g2 nSB, by
                    rw [U8.im_lookup (hf.keeps hml nM) Tryd.underlying111 Tryd.underlying5 (z := .pointer none) (by kernel_rfl), ho1]
                    rfl⟩
                  clear hg hml ho1 ho2 hcp hcb hcl nSB nM
                  go_wp2
                  have HKQ := Lib.hid (And.intro key.out (And.intro keyn.out (And.intro HPUT.out (And.intro HNONE.out HO.out))))
                  refine wp_region_keepsC [R + 1] [false, false, false, false, false, false, false, false, false, false, false, false, true] [none, none, none, none, none, none, none, none, none, none, none, none, some 13] (fun w => Blk w (R + 1) (ev.arr s) 63) [Is (.map (some M)), Is (.pointer (some ⟨SB, 2, none⟩)), Is (.string sx), Is (.int .i64 q), Is (.int .u8 (sx[q].toNat : Int)), Is (.pointer (some ⟨R + 1, o, none⟩)), Is (.string sq), NumF sq.bytes, NumF sq.bytes, NumI sq.bytes, Is (.bool (numM sq.bytes).isSome), Is (.pointer (some ⟨R + 1, o, none⟩)), (fun w v => ∃ n, (∀ m, numM sq.bytes = some m → n = m) ∧ Blk w (R + 1) ((ev.arr s).setIfInBounds o (.int .i64 n)) 63)] 13 (by kernel_rfl) (by kernel_rfl) (by kernel_rfl) (by kernel_rfl) (by kernel_rfl) (by kernel_rfl) (by kernel_rfl) (by kernel_rfl) ?hV (fun _ _ f h => h.fr f (by simp)) HI.out.e ?hS ?hD
                  case hV =>
                    repeat (first | exact trivial | exact Is.keepsN _ | exact Any.keepsN | exact fun _ _ _ _ _ _ h => h | exact fun _ _ _ f ⟨n, hn, hb⟩ => ⟨n, hn, hb.fr f (by simp)⟩ | refine And.intro ?_ ?_)
                  case hS =>
                    (repeat' (first | exact trivial | refine And.intro ?_ ?_))
                    rotate_right 1
                    · intro ac wx hf hbs hs hp K hK
                      simp only [zA, Region.binds, Nat.reduceAdd] at hp
                      have e9 := hs 9 (by kernel_rfl)
                      have e10 := hs 10 (by kernel_rfl)
                      have e11 := hs 11 (by kernel_rfl)
                      have e12 := hs 12 (by kernel_rfl)
                      simp only [Array.getD_eq_getD_getElem?, List.getElem?_toArray, List.getElem?_cons_succ, List.getElem?_cons_zero, Option.getD_some] at e9 e10 e11 e12
                      clear hs
                      obtain ⟨h11, ⟨n, h9, hn⟩, -⟩ := hp
                      have hb := hbs (by kernel_rfl)
                      have co := hb.cell o hxo
                      have zo := hb.free o
                      have HB := Lib.hid (And.intro hb hn)
                      clear hb hf hbs hn
                      simp only [h11, h9]
                      go_simp
                      try dsimp only
                      refine hK.out undef _ ?_ ?_
                      · exact ⟨[R + 1], (Fr.refl _ _).setCell _ (.inl (by simp)), fun x hx => .inl hx⟩
                      · simp only [nth]; exact ⟨n, HB.out.2, HB.out.1.set o _ rfl⟩
                    rotate_right 2
                    · intro ac wx hf hbs hs hp K hK
                      simp only [zA, Region.binds, Nat.reduceAdd] at hp
                      have e9 := hs 9 (by kernel_rfl)
                      have e10 := hs 10 (by kernel_rfl)
                      have e11 := hs 11 (by kernel_rfl)
                      have e12 := hs 12 (by kernel_rfl)
                      simp only [Array.getD_eq_getD_getElem?, List.getElem?_toArray, List.getElem?_cons_succ, List.getElem?_cons_zero, Option.getD_some] at e9 e10 e11 e12
                      clear hs
                      obtain ⟨⟨nn, qe, hnn⟩, -⟩ := hp
                      clear hf hbs
                      simp only [qe]
                      go_simp
                      try dsimp only
                      refine hK.out _ _ (Fr.refl _ _) ?_
                      simp only [nth]
                      (unfold Is; rfl)
                    rotate_right 1
                    · intro ac wx hf hbs hs hp K hK
                      simp only [zA, Region.binds, Nat.reduceAdd] at hp
                      have e9 := hs 9 (by kernel_rfl)
                      have e10 := hs 10 (by kernel_rfl)
                      have e11 := hs 11 (by kernel_rfl)
                      have e12 := hs 12 (by kernel_rfl)
                      simp only [Array.getD_eq_getD_getElem?, List.getElem?_toArray, List.getElem?_cons_succ, List.getElem?_cons_zero, Option.getD_some] at e9 e10 e11 e12
                      clear hs
                      obtain ⟨nn, qe, hnn⟩ := hp
                      clear hf hbs
                      simp only [qe]
                      go_simp
                      try dsimp only
                      refine hK.out _ _ (Fr.refl _ _) ?_
                      simp only [nth]
                      exact ⟨nn, rfl, hnn⟩
                    rotate_right 1
                    · intro ac wx hf hbs hs hp K hK
                      simp only [zA, Region.binds, Nat.reduceAdd] at hp
                      have e9 := hs 9 (by kernel_rfl)
                      have e10 := hs 10 (by kernel_rfl)
                      have e11 := hs 11 (by kernel_rfl)
                      have e12 := hs 12 (by kernel_rfl)
                      simp only [Array.getD_eq_getD_getElem?, List.getElem?_toArray, List.getElem?_cons_succ, List.getElem?_cons_zero, Option.getD_some] at e9 e10 e11 e12
                      clear hs
                      obtain ⟨nn, qe, hnn⟩ := hp
                      clear hf hbs
                      simp only [qe]
                      go_simp
                      try dsimp only
                      refine hK.out _ _ (Fr.refl _ _) ?_
                      simp only [nth]
                      exact ⟨nn, rfl, hnn⟩
                    all_goals (
                      intro ac wx hf hbs hs hp K hK
                      simp only [zA, Region.binds, Nat.reduceAdd] at hp
                      have e9 := hs 9 (by kernel_rfl)
                      have e10 := hs 10 (by kernel_rfl)
                      have e11 := hs 11 (by kernel_rfl)
                      have e12 := hs 12 (by kernel_rfl)
                      simp only [Array.getD_eq_getD_getElem?, List.getElem?_toArray, List.getElem?_cons_succ, List.getElem?_cons_zero, Option.getD_some] at e9 e10 e11 e12
                      clear hs
                      obtain ⟨cx0, cx1⟩ := k0 wx hf
                      have hE9 := HE.out.1.fr0 (HI.out.f.tr' hf (by have := hRw.out; simp; omega))
                      have hE9 := Lib.hid (And.intro hE9 hql2)
                      clear hf hbs
                      (try simp only [hp])
                      go_simp
                      try dsimp only
                      first | (refine hK.out _ _ ?_ ?_; (change Fr [] _ _; first | exact Fr.refl _ _ | exact (Fr.refl _ _).alloc _); (simp only [nth]; (first | (unfold Is; rfl) | (unfold Any; exact trivial)))) | (go_at_call 42; refine (scr_number _ sq hE9.out.1 hsq9).mono ?_; rintro e w' ⟨⟨n, rfl, hn⟩, f⟩; refine hK.out _ _ f ?_; simp only [nth]; exact ⟨n, rfl, hn⟩))
                  case hD =>
                    intro xv wx hf hp
                    simp only [List.take_succ_cons, List.take_zero, List.drop_succ_cons, List.drop_zero, fill, List.setIfInBounds_toArray, List.set_cons_zero, List.set_cons_succ, Nat.reduceAdd, Act.put]
                    rw [show live 13 (deadC [none, none, none, none, none, none, none, none, none, none, none, none, some 13]) = [0, 1, 2, 3, 4, 5, 6, 7, 8, 9, 10, 11, 12] from by decide] at hp
                    simp only [holds, nth, Is, Any, true_and, and_true] at hp
                    obtain ⟨p0, p1, p2, p3, p4, p5, p6, ⟨n7, p7, -⟩, ⟨n8, p8, -⟩, ⟨n9, p9, -⟩, p10, p11, ⟨n, hn, hbx⟩⟩ := hp
                    simp only [p0, p1, p2, p3, p4, p5, p6, p7, p8, p9, p10, p11]
                    rw [← HO.out.1 n] at hbx
                    have HF := Lib.hid (And.intro hf (And.intro hn hbx))
                    clear p0 p1 p2 p3 p4 p5 p6 p7 p8 p9 p10 p11 hf hn hbx k0 hxo
                    cases hsome : (numM sq.bytes).isSome with
                    | true =>
                      have HK := Lib.hid (keyW.out wx (ev.put sx[q] n) s HF.out.1 HF.out.2.2 (HPUT.out n HF.out.2.1 hsome) (by rw [put_b]; exact HI.out.b.frL HF.out.1 (fun x hx => ⟨Nat.zero_le _, by simp at hx; subst hx; exact HI.out.e.noB (by decide)⟩)))
                      clear hsome
                      go_wp2
                      go_roundw
                      case rel => exact ⟨q + 1, _, _, true, rfl, by go_num, by omega, HK.out⟩
                      case measure => simp [intOf]; omega
                    | false =>
                      have HN : Hid (eventM ws = none) := Lib.hid (HNONE.out hsome)
                      have HK := Lib.hid (And.intro HF.out.2.2 (And.intro (HI.out.r.fr HF.out.1 (by simp)) (HI.out.f.tr' HF.out.1 (by have := hRw.out; simp; omega))))
                      clear hsome
                      go_wp2_with (first | (refine wpList_load_row rfl 63 (.tmp 6) rfl (R + 1) rfl 63 ((ev.put sx[q] n).arr s) (0, 0) _ HK.out.1 Tryd.underlying63 rfl (by kernel_rfl) ?_) | (refine wpList_store_row rfl 63 (.tmp 4) (.tmp 88) rfl R ((ev.put sx[q] n).arr s) rfl rfl 63 ((EV.zero 0).arr Sl.nil) HK.out.2.1 (by kernel_rfl) rfl (ev_one _ _) ?_))
                      (try rw [Exit.noGoto_ret])
                      refine bodyPost_ret (v := .tuple #[.agg ((ev.put sx[q] n).arr s), .bool false]) (results_cell_tmp Tryd.results21 _ _ R _ _ _ _ _ rfl rfl (HK.out.2.1).setRow Tryd.underlying63 rfl (by kernel_rfl)) rfl ⟨?_, ?_⟩
                      · exact (HK.out.2.2).setRow _ (.inr (by have := hRw.out; omega))
                      · rw [HN.out]; exact ⟨ev.put sx[q] n, s, rfl⟩
            · have hqe : q = sx.size := by omega
              have HV : Hid (eventM ws = some ev) := Lib.hid (by
                unfold eventM
                rw [HH.out.1]
                simp only
                have h1 := hi.set
                rwa [List.take_of_length_le (by omega), List.take_of_length_le (by rw [List.length_tail]; have := HH.out.2; omega)] at h1)
              clear hi
              go_wp2_with (first | (refine wpList_load_row rfl 63 (.tmp 6) rfl (R + 1) rfl 63 (ev.arr s) (0, 0) _ HI.out.e Tryd.underlying63 rfl (by kernel_rfl) ?_) | (refine wpList_store_row rfl 63 (.tmp 4) (.tmp 88) rfl R (ev.arr s) rfl rfl 63 ((EV.zero 0).arr Sl.nil) HI.out.r (by kernel_rfl) rfl (ev_one _ _) ?_))
              (try rw [Exit.noGoto_ret])
              refine bodyPost_ret (v := .tuple #[.agg (ev.arr s), .bool true]) (results_cell_tmp Tryd.results21 _ _ R _ _ _ _ _ rfl rfl (HI.out.r).setRow Tryd.underlying63 rfl (by kernel_rfl)) rfl ⟨?_, ?_⟩
              · exact (HI.out.f).setRow _ (.inr (by have := hRw.out; omega))
              · rw [HV.out]; exact ⟨s, rfl, HI.out.b.frL ((Fr.refl [R] _).setRow _ (.inl (by simp))) (fun x hx => ⟨Nat.zero_le _, by simp at hx; subst hx; exact HI.out.r.noB (by decide)⟩)⟩
        · have q2 : ((ws.length : Int) == (m : Int)) = false := by rw [beq_eq_false_iff_ne]; omega
          have q2n : ((ws.length : Int) != (m : Int)) = true := by rw [bne_iff_ne]; omega
          have HN : Hid (∀ nq, EvAt w ws ⟨some ⟨sb, 0, none⟩, 25, c⟩ R (k + 1) (w2.drewN nq)) := Lib.hid (fun nq => by
            have fd : Fr [] w2 (w2.drewN nq) := (Fr.refl [] w2).drewN nq
            refine ⟨H2.out.2.e.fr fd (by simp), H2.out.2.r.fr fd (by simp), H2.out.2.f.tr fd, fun j hj b hb => ?_⟩
            by_cases hjk : j = k
            · subst hjk
              rw [HSH.out.1] at hb
              cases hb
              unfold hitB
              have : (ws.length == 1 + sh.2.2.length) = false := by rw [beq_eq_false_iff_ne, show sh.2.2.length = sx.size by rw [← HSH.out.2.2]; rfl]; have := HM.out.2; omega
              rw [this, Bool.and_false]
            · exact HQ.out.no j (by omega) b hb)
          clear h1 h2
          go_quiet (fail)
          go_wp2
          go_roundw
          case rel => exact ⟨k + 1, rfl, by go_num, by omega, HN.out _⟩
          case measure => simp [intOf]; omega
      · have q1 : (sw.toList == s0.toList) = false := by rw [ByteArray.toList_eq, ByteArray.toList_eq, beq_eq_false_iff_ne]; exact h1
        have q1n : (sw.toList != s0.toList) = true := by rw [ByteArray.toList_eq, ByteArray.toList_eq, bne_iff_ne]; exact h1
        have HN : Hid (∀ nq, EvAt w ws ⟨some ⟨sb, 0, none⟩, 25, c⟩ R (k + 1) (w2.drewN nq)) := Lib.hid (fun nq => by
          have fd : Fr [] w2 (w2.drewN nq) := (Fr.refl [] w2).drewN nq
          refine ⟨H2.out.2.e.fr fd (by simp), H2.out.2.r.fr fd (by simp), H2.out.2.f.tr fd, fun j hj b hb => ?_⟩
          by_cases hjk : j = k
          · subst hjk
            rw [HSH.out.1] at hb
            cases hb
            unfold hitB
            have : (sh.2.1 == ws.headD []) = false := by rw [beq_eq_false_iff_ne, ← HSH.out.2.1, HE.out.2.2.2.1]; exact h1
            rw [this, Bool.false_and]
          · exact HQ.out.no j (by omega) b hb)
        clear h1
        go_quiet (fail)
        go_wp2
        go_roundw
        case rel => exact ⟨k + 1, rfl, by go_num, by omega, HN.out _⟩
        case measure => simp [intOf]; omega
    · have hke : k = 25 := by omega
      have HV : Hid (eventM ws = none) := Lib.hid (by
        have h0 : findW (ws.headD []) ws.length = none := find_nothing (p := hitB ws) (fun j hj b hb => hq.no j (by have : shapesM.length = 25 := rfl; omega) b hb)
        unfold eventM
        rw [h0])
      clear hq
      go_wp2_with (first | (refine wpList_load_row rfl 63 (.tmp 6) rfl (R + 1) rfl 63 ((EV.zero 0).arr Sl.nil) (0, 0) _ HQ.out.e Tryd.underlying63 rfl (by kernel_rfl) ?_) | (refine wpList_store_row rfl 63 (.tmp 4) (.tmp 88) rfl R ((EV.zero 0).arr Sl.nil) rfl rfl 63 ((EV.zero 0).arr Sl.nil) HQ.out.r (by kernel_rfl) rfl (ev_one _ _) ?_))
      (try rw [Exit.noGoto_ret])
      refine bodyPost_ret (v := .tuple #[.agg ((EV.zero 0).arr Sl.nil), .bool false]) (results_cell_tmp Tryd.results21 _ _ R _ _ _ _ _ rfl rfl (HQ.out.r).setRow Tryd.underlying63 rfl (by kernel_rfl)) rfl ⟨?_, ?_⟩
      · exact (HQ.out.f).setRow _ (.inr (by have := hRw.out; omega))
      · rw [HV.out]; exact ⟨EV.zero 0, Sl.nil, rfl⟩
end Go.Proofs.YtodlbajpcbdbaaaDoor
namespace Go.Proofs.YtodlbajpcbdbaaaDoor
open Go.RowKit Go.Shelf
set_option linter.unusedVariables false
set_option linter.unusedSimpArgs false
set_option maxRecDepth 100000

abbrev PRes := Except (Int × Int) (List Int × List EV)
/-- Line by line. -/
def goL : Nat → List (List UInt8) → List Int → List EV → PRes
  | _, [], c, l => .ok (c, l)
  | 0, x :: r, c, l => (match configM (splitc 32 x) with | some c' => goL 1 r c' l | none => .error (1, 12))
  | i + 1, x :: r, c, l => (match eventM (splitc 32 x) with | some e => goL (i + 2) r c (l ++ [e]) | none => .error ((i : Int) + 2, 12))
def longB (t : List UInt8) (n : Nat) (last : List UInt8) : Bool := decide (65536 < t.length) || (decide (2048 < n) || (decide (n = 2048) && !last.isEmpty))
def lineN (t : List UInt8) : Nat := (splitc 10 t).length - 1
def lastL (t : List UInt8) : List UInt8 := (splitc 10 t).getD (lineN t) []
def endM (n : Nat) (last : List UInt8) : PRes → PRes
  | .error e => .error e
  | .ok r => if n = 0 ∨ last ≠ [] then .error ((n : Int) + 1, 12) else .ok r
def parseM (t : List UInt8) : PRes := if longB t (lineN t) (lastL t) = true then .error (0, 3) else endM (lineN t) (lastL t) (goL 0 ((splitc 10 t).take (lineN t)) zeros17 [])
theorem splitc_len (c : UInt8) : ∀ l, (splitc c l).length ≤ l.length + 1 ∧ 1 ≤ (splitc c l).length
  | [] => by simp [splitc]
  | x :: r => by
    have ih := splitc_len c r
    unfold splitc
    split
    · simp only [List.length_cons]; omega
    · simp only [List.length_cons, List.length_tail]; omega
theorem splitc_le (c : UInt8) : ∀ l, ∀ x ∈ splitc c l, x.length ≤ l.length
  | [], x, h => by simp [splitc] at h; subst h; simp
  | y :: r, x, h => by
    have ih := splitc_le c r
    unfold splitc at h
    split at h
    · rcases List.mem_cons.1 h with rfl | h
      · simp
      · have := ih x h; simp only [List.length_cons]; omega
    · rcases List.mem_cons.1 h with rfl | h
      · simp only [List.length_cons]
        cases hs : splitc c r with
        | nil => simp
        | cons a t => have := ih a (by rw [hs]; simp); simp only [List.headD_cons]; omega
      · have := ih x (List.mem_of_mem_tail h); simp only [List.length_cons]; omega
/-- A row of events. -/
def repE (N : Nat) (w : World) (cs : List Value) (e : EV) : Prop := ∃ s : Sl, cs = (e.arr s).toList ∧ Bts N w s (bytesI e.b)
def ERow (N B : Nat) (s : Sl) (l : List EV) (w : World) : Prop := RowG 63 8 (repE N) B w s l
theorem ERow.fr {N B : Nat} {s : Sl} {l : List EV} {w w' : World} (f : Fr [] w w') (h : ERow N B s l w) : ERow N B s l w' := RowG.fr (fun _ _ ⟨s, e, hb⟩ => ⟨s, e, hb.fr f⟩) h f
theorem ERow.frL {N B : Nat} {s : Sl} {l : List EV} {w w' : World} {L : List Nat} (h : ERow N B s l w) (f : Fr L w w') (hL : ∀ x ∈ L, N ≤ x ∧ ∀ cs fz, w.heap[x]? ≠ some (.cells cs 5 fz)) (hn : ∀ b ∈ s.blk, b ∉ L) : ERow N B s l w' :=
  RowG.frL h f hn fun _ _ ⟨s, e, hb⟩ => ⟨s, e, hb.frL f hL⟩
theorem ERow.get {N B : Nat} {s : Sl} {l : List EV} {w : World} (h : ERow N B s l w) {k : Nat} {e : EV} (hk : l[k]? = some e) :
    ∃ b sd, s.A = some ⟨b, 0, none⟩ ∧ Bts N w sd (bytesI e.b) ∧ w.cell? ⟨b, k * 8, none⟩ = some (.int .i64 e.d) ∧ w.cell? ⟨b, k * 8 + 1, none⟩ = some (.int .i64 e.fr) ∧ w.cell? ⟨b, k * 8 + 2, none⟩ = some (.int .i64 e.to) ∧ w.cell? ⟨b, k * 8 + 3, none⟩ = some (.int .i64 e.n) ∧ w.cell? ⟨b, k * 8 + 4, none⟩ = some (.int .i64 e.sap) ∧ w.cell? ⟨b, k * 8 + 5, none⟩ = some (.int .i64 e.far) ∧ w.cell? ⟨b, k * 8 + 6, none⟩ = some (.bool e.po) ∧ w.cell? ⟨b, k * 8 + 7, none⟩ = some (.slice sd.A sd.n sd.c) := by
  obtain ⟨b, x, h1, h2, ⟨sd, rfl, hb⟩, hc⟩ := RowG.get h hk
  exact ⟨b, sd, h1, hb, hc 0 (by decide), hc 1 (by decide), hc 2 (by decide), hc 3 (by decide), hc 4 (by decide), hc 5 (by decide), hc 6 (by decide), hc 7 (by decide)⟩
theorem ERow.off {N B : Nat} {s : Sl} {l : List EV} {w : World} (h : ERow N B s l w) (hN : N ≤ B) : ∀ x ∈ s.blk, N ≤ x ∧ ∀ cs fz, w.heap[x]? ≠ some (.cells cs 5 fz) := by
  intro x hx
  obtain ⟨h1, cs, h2⟩ := RowG.blk h x hx
  exact ⟨by omega, fun cs' fz e => by rw [h2] at e; cases e⟩
theorem results_cell3 {P : Program} {fn : Func} {p q r u : Tmp} {ty : TypeId} (h : fn.results = #[.cell p ty, .tmp q, .tmp r, .tmp u]) (tmps : Array Value) (w : World) (g : Nat) (t : TypeId) (cs : Array Value) (fr : Nat × Nat) (d : TypeDesc) (v v1 v2 : Value)
    (hp : tmps.getD p undef = .pointer (some ⟨g, 0, none⟩)) (hq : tmps.getD q undef = v) (hr : tmps.getD r undef = v1) (hu2 : tmps.getD u undef = v2) (hg : w.heap[g]? = some (.cells cs t fr))
    (hu : P.underlying ty = some d) (hd : (match d with | .struct _ | .array _ _ => true | _ => false) = true) (hi : (P.info? ty).map (·.size) = some cs.size) :
    (results fn tmps).run P w = .ok (.tuple #[.agg cs, v, v1, v2]) w := by
  have hp' : tmps[p]?.getD undef = .pointer (some ⟨g, 0, none⟩) := by simpa using hp
  have hq' : tmps[q]?.getD undef = v := by simpa using hq
  have hr' : tmps[r]?.getD undef = v1 := by simpa using hr
  have hu' : tmps[u]?.getD undef = v2 := by simpa using hu2
  simp [results, h, hp', hq', hr', hu', asAddr, run_loadVar_row w g t ty cs fr d hg hu hd hi]
def ParsePost (w : World) (t : List UInt8) (e : Ending) (w' : World) : Prop := Fr [] w w' ∧ match parseM t with
  | .ok (c, l) => c.length = 17 ∧ ∃ sl : Sl, e = .returned (.tuple #[.agg (intsV c), .slice sl.A sl.n sl.c, .int .i64 0, .int .i64 0]) ∧ ERow 0 w.heap.size sl l w'
  | .error (a, b) => e = .returned (.tuple #[.agg (intsV zeros17), .slice none 0 0, .int .i64 a, .int .i64 b])
end Go.Proofs.YtodlbajpcbdbaaaDoor
