/- Lemmas: Fr, Reg, Range, Mix, Tac, Par, ParT, Arg, Row, ParG, Pdu, PduM, TieB, TieC, TieD, TieE, TieP. No condition. -/
import Derived.WalkKit
import Derived.Below
import Derived.Deep.Draws
import Derived.BigQuiet
import Derived.RangeFuncNested
import Derived.RangeFuncCalls
import Derived.RangeFuncLeaves
import Derived.OrdersIn
import Derived.StillTailTactics
import Derived.Shelf.Abstract
import Derived.OwnWalkIn
import Derived.TacticsInMore
import Derived.LoopIn
import Derived.OrdersHeld
import Derived.Deep.RegionHeld3
import Derived.ProofKit
import Derived.OpenShut
import Derived.Deep.Slices
import Derived.OwnWalk
import Derived.Test.YtneggoonlmmjeaaGreatProg
import Derived.WalkLawsBesides
import Derived.WalkSpells
import Derived.Outline
import Derived.Laws.BitsLemmas
import Derived.Lib.Hide
import Derived.Deep.RegionLaw
import Derived.Lib.SliceRun
import Derived.Lib.AppendZeros
import Derived.Shelf.RegionOpenPlain
namespace Go.Proofs.YtneggoonlmmjeaaGreat
open Go.RowKit

/-- Of the blocks that lay in w only those of L may be otherwise in w'. -/
structure Fr (L : List Nat) (w w' : World) : Prop where
  os : w'.os = w.os
  tape : w'.tape = w.tape
  output : w'.output = w.output
  size : w.heap.size ≤ w'.heap.size
  block : ∀ k, k < w.heap.size → k ∉ L → w'.heap[k]? = w.heap[k]?

theorem Fr.refl (L : List Nat) (w : World) : Fr L w w := ⟨rfl, rfl, rfl, Nat.le_refl _, fun _ _ _ => rfl⟩

theorem Fr.trans {L M : List Nat} {a b c : World} (h : Fr L a b) (k : Fr M b c) (hM : ∀ x, x ∈ M → x ∈ L ∨ a.heap.size ≤ x) : Fr L a c :=
  ⟨k.os.trans h.os, k.tape.trans h.tape, k.output.trans h.output, Nat.le_trans h.size k.size, fun i hi hn => by
    rw [k.block i (Nat.lt_of_lt_of_le hi h.size) (fun hm => by rcases hM i hm with h1 | h1; exact hn h1; omega), h.block i hi hn]⟩

theorem Fr.mono {L M : List Nat} {a b : World} (h : Fr L a b) (hL : ∀ x, x ∈ L → x ∈ M ∨ a.heap.size ≤ x) : Fr M a b := (Fr.refl M a).trans h hL

theorem Fr.drewN {L : List Nat} {a w : World} (h : Fr L a w) (n : Nat) : Fr L a (w.drewN n) := ⟨h.os, h.tape, h.output, h.size, h.block⟩
theorem Fr.drew {L : List Nat} {a w : World} (h : Fr L a w) : Fr L a w.drew := ⟨h.os, h.tape, h.output, h.size, h.block⟩

theorem Fr.alloc {L : List Nat} {a w : World} (h : Fr L a w) (o : Obj) : Fr L a (w.alloc o) :=
  h.trans (M := []) ⟨rfl, rfl, rfl, by simp, fun k hk _ => Below.heap_alloc _ _ _ (by omega)⟩ (fun _ hx => by cases hx)

theorem Fr.setCell {L : List Nat} {a w : World} (h : Fr L a w) {p : Addr} (u : Value) (hp : p.block ∈ L ∨ a.heap.size ≤ p.block) : Fr L a (w.setCell p u) :=
  h.trans (M := [p.block]) ⟨rfl, rfl, rfl, by simp [World.setCell], fun k _ hn => Below.heap_setCell _ _ _ _ (by simpa using hn)⟩ (fun x hx => by simp at hx; subst hx; exact hp)

theorem Fr.of_below {w w' : World} (h : Below w.heap.size w w') : Fr [] w w' := ⟨h.os, h.tape, h.output, h.size, fun k hk _ => h.block k hk⟩

theorem Fr.below {L : List Nat} {w w' : World} (h : Fr L w w') {B : Nat} (hB : B ≤ w.heap.size) (hL : ∀ x, x ∈ L → B ≤ x) : Below B w w' :=
  ⟨h.os, h.tape, h.output, h.size, fun k hk => h.block k (by omega) (fun hm => by have := hL k hm; omega)⟩

theorem Fr.cell {L : List Nat} {w w' : World} (h : Fr L w w') {a : Addr} {v : Value} (hc : w.cell? a = some v) (hn : a.block ∉ L) : w'.cell? a = some v := by
  have hlt : a.block < w.heap.size := World.block_lt_of_cell? w a hc
  rw [World.cell?_of_block (w := w) (h.block a.block hlt hn)]; exact hc

theorem Fr.keeps {L : List Nat} {w w' : World} (h : Fr L w w') {b : Nat} {o : Obj} (ho : w.heap[b]? = some o) (hn : b ∉ L) : w'.heap[b]? = some o := by
  rw [h.block b (Array.getElem?_eq_some_iff.1 ho).1 hn]; exact ho

/-- Block b is a plain row of these cells. -/
def Blk (w : World) (b : Nat) (cs : Array Value) (t : TypeId) : Prop := w.heap[b]? = some (.cells cs t (0, 0))

theorem Blk.lt {w : World} {b : Nat} {cs : Array Value} {t : TypeId} (h : Blk w b cs t) : b < w.heap.size := (Array.getElem?_eq_some_iff.1 h).1
theorem Blk.cell {w : World} {b : Nat} {cs : Array Value} {t : TypeId} (h : Blk w b cs t) (i : Nat) {v : Value} (hv : cs[i]? = some v) : w.cell? ⟨b, i, none⟩ = some v := by
  rw [Blk] at h; simp [World.cell?, h, hv]
theorem Blk.free {w : World} {b : Nat} {cs : Array Value} {t : TypeId} (h : Blk w b cs t) (i : Nat) : w.frozen? ⟨b, i, none⟩ = false := by
  rw [Blk] at h; simp [World.frozen?, h]
theorem Blk.fr {L : List Nat} {w w' : World} {b : Nat} {cs : Array Value} {t : TypeId} (h : Blk w b cs t) (hf : Fr L w w') (hn : b ∉ L) : Blk w' b cs t := hf.keeps h hn
theorem Blk.new (w : World) (cs : Array Value) (t : TypeId) : Blk (w.alloc (.cells cs t)) w.heap.size cs t := by
  show (w.heap.push _)[w.heap.size]? = _
  simp
theorem Blk.alloc {w : World} {b : Nat} {cs : Array Value} {t : TypeId} (h : Blk w b cs t) (o : Obj) : Blk (w.alloc o) b cs t := h.fr ((Fr.refl [] w).alloc o) (by simp)
theorem Blk.drewN {w : World} {b : Nat} {cs : Array Value} {t : TypeId} (h : Blk w b cs t) (n : Nat) : Blk (w.drewN n) b cs t := h
theorem Blk.drew {w : World} {b : Nat} {cs : Array Value} {t : TypeId} (h : Blk w b cs t) : Blk w.drew b cs t := h
theorem Blk.set {w : World} {b : Nat} {cs cs' : Array Value} {t : TypeId} (h : Blk w b cs t) (i : Nat) (v : Value) (e : cs' = cs.setIfInBounds i v) : Blk (w.setCell ⟨b, i, none⟩ v) b cs' t := by
  subst e
  have hlt := h.lt
  rw [Blk] at h ⊢
  simp only [World.setCell, Array.getElem?_modify, if_true, h, Option.map_some]
  rfl
theorem Blk.far {w : World} {b : Nat} {cs : Array Value} {t : TypeId} (h : Blk w b cs t) {p : Addr} (hp : b ≠ p.block) (v : Value) : Blk (w.setCell p v) b cs t := by
  rw [Blk] at h ⊢
  rw [Below.heap_setCell _ _ _ _ hp]; exact h
end Go.Proofs.YtneggoonlmmjeaaGreat
namespace Go.Proofs.YtneggoonlmmjeaaGreat
open Go.RowKit
set_option linter.unusedVariables false
set_option linter.unusedSimpArgs false
set_option maxRecDepth 100000

/-- A world in which all that lay in w lies as it lay. -/
structure After (w : World) where
  x : World
  fr : Fr [] w x

instance (w : World) : Nonempty (After w) := ⟨⟨w, Fr.refl _ _⟩⟩

theorem wp_region_after {P : Program} {id : Nat} {Q : Exit → Act → World → Prop} {a : Act} {w : World} {l : List Oper} (hm : P.follows .mixedOrders = true) (hB : Region.lexB .any l.toArray = true)
    (h : wpQuiet P l.toArray (fun w' => ∃ n : After w, w' = n.x) (fun a' => ∀ w', (∃ n : After w, w' = n.x) → Q .normal a' w') l a) : (Code.region id l.toArray true).wp P Q a w :=
  wp_region_quiet (C := fun w' => ∃ n : After w, w' = n.x) hm hB ⟨⟨w.drewN 1, (Fr.refl _ _).drewN 1⟩, rfl⟩ (by simpa using h)

/-- A callee's contract, met in such a world. -/
theorem Calls.after {P : Program} {f : FuncId} {args : Array Value} {w : World} {n : After w} {v : Value}
    (h : Calls P f args n.x fun e w' => e = .returned v ∧ Fr [] n.x w') : Calls P f args n.x fun e w'' => e = .returned v ∧ ∃ m : After w, w'' = m.x :=
  h.mono fun _ w' ⟨he, hf⟩ => ⟨he, ⟨w', n.fr.trans hf (fun _ hx => by cases hx)⟩, rfl⟩

theorem Calls.after_same {P : Program} {f : FuncId} {args : Array Value} {w : World} {n : After w} {v : Value}
    (h : Calls P f args n.x fun e w' => e = .returned v ∧ n.x = w') : Calls P f args n.x fun e w'' => e = .returned v ∧ ∃ m : After w, w'' = m.x :=
  Calls.after (h.mono fun _ w' ⟨he, hf⟩ => ⟨he, hf ▸ Fr.refl _ _⟩)

theorem After.cell {w : World} {a : Addr} {v : Value} (h : w.cell? a = some v) (n : After w) : n.x.cell? a = some v := n.fr.cell h (by simp)
theorem After.frozen {w : World} {a : Addr} {v : Value} (h : w.cell? a = some v) (n : After w) : n.x.frozen? a = w.frozen? a :=
  World.frozen?_of_block (w := w) (n.fr.block a.block (World.block_lt_of_cell? w a h) (by simp))
end Go.Proofs.YtneggoonlmmjeaaGreat
namespace Go.Proofs.YtneggoonlmmjeaaGreat
open Go.RowKit
set_option linter.unusedVariables false
set_option linter.unusedSimpArgs false
set_option maxRecDepth 100000

theorem rowsIn_wide {n : Nat} {P : Program} {row : String} {args : Array Value} {w : World} {R : Value → World → Prop} (h : Rows P row args w R) : RowsIn Fence.wide n P row args w R := by
  intro c cs hroom
  obtain ⟨v, w', r, s⟩ := h c cs
  exact ⟨v, w', r, stepsIn_wide.2 s⟩

theorem wpIn_of_wp_round {P : Program} {o : Oper} {l n : Nat} {a : Act} {w : World} {K : Act → World → Prop} {Q : Exit → Act → World → Prop} (hnd : ∀ c, o.op ≠ .defer c)
    (h : o.wp P a w K Q) : o.wpIn (Fence.wide.inRound l) n P a w K Q := by
  refine ⟨fun f _ => trivial, ?_⟩
  have e : (o.semAt (Fence.wide.inRound l).round a.eval) = execOp a.eval o := Oper.semAt_some l _ _ hnd
  rw [e]
  unfold Oper.wp at h
  generalize (execOp a.eval o).run P w = r at *
  cases r with
  | ok x w' =>
    cases x <;> simp only [Oper.upon, Oper.uponIn] at h ⊢
    case enter f args =>
      refine ⟨(fun hd => by cases hd), ?_⟩
      exact CallsIn.inRound l (callsIn_wide.2 (h.mono fun e w'' he => by cases e <;> exact he))
    case row row args =>
      exact ⟨(fun hd => by cases hd), rowsIn_wide h⟩
    all_goals exact h
  | halt x w' => cases x <;> simp only [Oper.upon, Oper.uponIn] at h ⊢ <;> exact h

theorem wpAnyIn_round {P : Program} {md : Region.Mode} {ops : Array Oper} {Q : Exit → Act → World → Prop} {l n : Nat} (hnd : ∀ (i : Nat) (o : Oper), ops[i]? = some o → ∀ c, o.op ≠ .defer c) (hQ : ¬ LetsOut Q) :
    ∀ (fuel : Nat) (listed : Array Bool) (a : Act) (w : World), wpAny P md ops Q fuel listed a w → wpAnyIn (Fence.wide.inRound l) n P md ops Q fuel listed a w
  | 0, _, _, _, h => h
  | fuel + 1, listed, a, w, h => ⟨h.1, fun i hi => by
    have h2 := h.2 i hi
    unfold wpOp at h2
    unfold wpOpIn
    cases ho : ops[i]? with
    | none => simp only [ho] at h2 ⊢; exact wpAnyIn_round hnd hQ fuel _ a w h2
    | some o =>
      simp only [ho] at h2 ⊢
      by_cases hw : Region.wanted o (yielded ops a.tmps) = true
      · simp only [hw, if_true] at h2 ⊢
        rcases h2 with h3 | h3
        · exact wpIn_of_wp_round (hnd i o ho) (Oper.wp_mono (fun a' w' h' => wpAnyIn_round hnd hQ fuel _ a' w' h') h3)
        · exact absurd h3.2 hQ
      · simp only [hw, Bool.false_eq_true, if_false] at h2 ⊢
        exact ⟨fun f _ => trivial, wpAnyIn_round hnd hQ fuel _ _ w h2⟩⟩

def noDefer (l : List Oper) : Bool := l.all fun o => match o.op with | .defer _ => false | _ => true
theorem noDefer_spec {l : List Oper} (h : noDefer l = true) : ∀ (i : Nat) (o : Oper), l.toArray[i]? = some o → ∀ c, o.op ≠ .defer c := by
  intro i o ho c hc
  have hm : o ∈ l := by
    have : l[i]? = some o := by simpa using ho
    exact List.mem_of_getElem? this
  have := List.all_eq_true.1 h o hm
  rw [hc] at this
  cases this

/-- In a round: a region of reads that draws its order. -/
theorem wpIn_region_quiet_round {P : Program} {id l n : Nat} {Q : Exit → Act → World → Prop} {a : Act} {w : World} {ol : List Oper} (hm : P.follows .mixedOrders = true) (hB : Region.lexB .any ol.toArray = true) (hd : noDefer ol = true) (hQ : ¬ LetsOut Q)
    (h : wpQuiet P ol.toArray (fun w' => ∃ n, w' = w.drewN n) (fun a' => ∀ w', (∃ n, w' = w.drewN n) → Q .normal a' w') ol a) : (Code.region id ol.toArray true).wpIn (Fence.wide.inRound l) n P Q a w := by
  simp only [Region.lexB, Bool.and_eq_true] at hB
  refine wpIn_region_any hm (wpAnyIn_round (noDefer_spec hd) hQ _ _ _ _ ?_)
  refine wpAny_of_quiet (C := fun w' => ∃ n, w' = w.drewN n) (Q := fun a' => ∀ w', (∃ n, w' = w.drewN n) → Q .normal a' w') (fun _ w' hw' h => h w' hw') _ _ _ _ ⟨1, rfl⟩ ?_
  have := wpAnyQ_lex (P := P) (C := fun w' => ∃ n, w' = w.drewN n) (md := .any) hB.1 ol 0 (Array.replicate ol.toArray.size false) a (by simp) (by simpa using hB.2) h
  simpa using this

/-- In a round: a region that draws its order: reads first, then a tail in one order. -/
theorem wpIn_region_tail_round {P : Program} {id lp n : Nat} {Q : Exit → Act → World → Prop} {a : Act} {w : World} {l : List Oper} (k : Nat) (hm : P.follows .mixedOrders = true) (hB : Region.lexTailB .any l.toArray k = true) (hd : noDefer l = true) (hQ : ¬ LetsOut Q)
    (h : wpStill P l.toArray { w with drawn := w.drawn + 1 } (fun a' => wpList P l.toArray Q (l.drop k) a' { w with drawn := w.drawn + 1 }) (l.take k) a) : (Code.region id l.toArray true).wpIn (Fence.wide.inRound lp) n P Q a w := by
  simp only [Region.lexTailB, Bool.and_eq_true, decide_eq_true_eq] at hB
  obtain ⟨⟨⟨⟨hsel, hn⟩, hs⟩, hc⟩, hlex⟩ := hB
  have hn' : k < l.length := by simpa using hn
  have htl : (l.take k).length = k := by simp; omega
  have hdl : (l.drop k).length = l.toArray.size - k := by simp
  have inv0 : HeadInv .any l.toArray k (Array.replicate l.toArray.size false) :=
    ⟨by simp, fun j oj _ hl => (by rw [getD_replicate_false] at hl; cases hl), fun t _ ht => getD_in (by simpa using ht) (getD_replicate_false _ _)⟩
  have H := wpAnyL_lex (md := .any) (g := l.toArray.size - k) hsel hs hc hn (l.take k) 0 _ a (fun j hj => by
    have hj' : j < k := by rw [htl] at hj; exact hj
    simp [hj']) (by simpa using htl) inv0 (by rw [htl]; exact hlex) h
  refine wpIn_region_any hm (wpAnyIn_round (noDefer_spec hd) hQ _ _ _ _ ?_)
  have := wpAny_of_head (Q' := Q) (g := l.toArray.size - k) (fun listed a' hL => by
    have := wpAny_of_seq (md := .any) (Q' := Q) (l.drop k) k listed a' { w with drawn := w.drawn + 1 } (fun j => by simp [List.getElem?_drop]) (by rw [hdl]; exact hL.1) hL.2
    rwa [hdl] at this) _ _ _ H
  rw [htl, show k + (l.toArray.size - k) = l.toArray.size by omega] at this
  exact this

/-- Reads in one world: by the cheaper walk. -/
theorem still_of_quiet {P : Program} {ops : Array Oper} {w : World} {Q : Act → Prop} : ∀ (l : List Oper) (a : Act), wpQuiet P ops (fun w' => w' = w) Q l a → wpStill P ops w Q l a
  | [], _, h => h
  | o :: l, a, h => by
    simp only [wpQuiet] at h
    simp only [wpStill]
    by_cases hw : Region.wanted o (yielded ops a.tmps) = true
    · simp only [hw, if_true] at h ⊢
      obtain ⟨v, h1, h2⟩ := h
      have h3 := h1 w rfl
      unfold Oper.quietAt at h3
      unfold Oper.still
      generalize (execOp a.eval o).run P w = r at *
      cases r with
      | ok n w' =>
        cases n <;> simp only [Oper.quietUpon] at h3 <;> simp only [Oper.stillUpon]
        case value u => obtain ⟨e1, e2⟩ := h3; subst e2; exact ⟨e1, still_of_quiet l _ h2⟩
        case skip => obtain ⟨e1, e2⟩ := h3; subst e2; exact ⟨e1, still_of_quiet l _ h2⟩
        case enter f args => obtain ⟨e1, hc⟩ := h3; exact ⟨e1, v, hc, still_of_quiet l _ h2⟩
      | halt x w' => simp only [Oper.quietUpon] at h3
    · simp only [hw, Bool.false_eq_true, if_false] at h ⊢
      exact still_of_quiet l _ h

/-- A region that draws its order: reads first, then a tail in one order. -/
theorem wp_region_tail {P : Program} {id : Nat} {Q : Exit → Act → World → Prop} {a : Act} {w : World} {l : List Oper} (k : Nat) (hm : P.follows .mixedOrders = true) (hB : Region.lexTailB .any l.toArray k = true)
    (h : wpQuiet P l.toArray (fun w' => w' = w.drew) (fun a' => wpList P l.toArray Q (l.drop k) a' w.drew) (l.take k) a) : (Code.region id l.toArray true).wp P Q a w :=
  wp_region_still_tail k hm hB (still_of_quiet _ _ h)

theorem wpIn_region_tail {P : Program} {id lp n : Nat} {Q : Exit → Act → World → Prop} {a : Act} {w : World} {l : List Oper} (k : Nat) (hm : P.follows .mixedOrders = true) (hB : Region.lexTailB .any l.toArray k = true) (hd : noDefer l = true) (hQ : ¬ LetsOut Q)
    (h : wpQuiet P l.toArray (fun w' => w' = w.drew) (fun a' => wpList P l.toArray Q (l.drop k) a' w.drew) (l.take k) a) : (Code.region id l.toArray true).wpIn (Fence.wide.inRound lp) n P Q a w :=
  wpIn_region_tail_round k hm hB hd hQ (still_of_quiet _ _ h)

/-- What the body of a round comes to: it runs off its end, what is no cells lies as it lay, the invariant of the next state holds. -/
def offEnd (R : World → Prop) (W : World) : Exit → Act → World → Prop
  | .normal, _, W' => KeepsOthers W W' ∧ R W'
  | _, _, _ => False

theorem offEnd_shut (R : World → Prop) (W : World) : ¬ LetsOut (offEnd R W) := fun ⟨_, _, h⟩ => h

/-- **A range over a function whose rounds all run off their end.** States of the loop: σ; I: what holds between two rounds; one: an argument of yield that may come in state s, and the state behind it. -/
theorem wp_rangeFunc_off {σ : Type} {P : Program} {g : Operand} {ps : Array Tmp} {assign body : Code} {Q : Exit → Act → World → Prop} {a : Act} {w : World}
    {gf : Nat} {lb : Array Value} (hg : a.eval g = .func (.func gf) #[] lb) (eg : ∀ args w, (callFunc gf args).run P w = .ok (.enter gf args) w)
    (I : σ → World → Prop) (hI : ∀ s W l o o', I s W → w.heap.size ≤ l → W.heap[l]? = some o → o.isCells = false → o.isWalk = false → I s (W.putObj l o'))
    (hA : ∀ s W o, I s W → I s (W.alloc o))
    (s0 : σ) (h0 : I s0 w) (enc : σ → Array Value) (hps : ∀ s, (enc s).size = ps.size) (more : σ → Prop) (next : σ → σ)
    (hiter : ∀ (l : Nat) (J : σ → World → Prop) (W : World), (∀ s W, J s W → I s W) → (∀ s W n, J s W → J s (W.drewN n)) →
      (∀ s W, J s W → more s → YieldAt Fence.wide 0 P l (enc s) W fun e W' => e = .returned (.bool true) ∧ J (next s) W') → J s0 W →
      CallsIn Fence.wide 0 P gf (#[.func (.yield l) #[] #[]] ++ lb) W fun e W' => (∃ v, e = .returned v) ∧ ∃ s, ¬ more s ∧ J s W')
    (hdrew : ∀ s W n, I s W → I s (W.drewN n))
    (a₁ : σ → Act)
    (hassign : ∀ (l : Nat) (s : σ) (W : World) (K : Act → World → Prop), K (a₁ s) W →
      assign.wpIn (Fence.wide.inRound l) 0 P (Exit.then K (fun _ _ _ => False)) { tmps := (ps.zip (enc s)).foldl (fun t (p, v) => t.setIfInBounds p v) a.tmps, defers := [] } W)
    (hbody : ∀ (l : Nat) (s : σ) (W : World), I s W → more s → body.wpIn (Fence.wide.inRound l) 0 P (offEnd (I (next s)) W) (a₁ s) W)
    (hdone : ∀ (D : Nat) (s : σ) (W : World), w.heap.size ≤ D → ¬ more s → I s W → W.heap[D]? = some (.deferred (some [])) → Q .normal { a with defers := { target := .collected D, args := #[] } :: a.defers } W) :
    (Code.rangeFunc g ps assign body).wp P Q a w := by
  refine (wpIn_wide (n := 0)).1 (wpIn_rangeFunc ?_)
  intro fn hfn
  obtain ⟨rec, hrec⟩ : ∃ rec : LoopState → Option Code → Loop, rec = fun st pe => { state := st, pending := pe, fn, tmps := a.tmps, params := ps, assign, body, defers := w.heap.size } := ⟨_, rfl⟩
  obtain ⟨W1, hW1⟩ : ∃ W1, (w.alloc (.deferred (some []))).alloc (.loop (rec .ready none)) = W1 := ⟨_, rfl⟩
  have hL1 : W1.heap[w.heap.size + 1]? = some (.loop (rec .ready none)) := by
    rw [← hW1]; have := World.alloc_heap_new (w.alloc (.deferred (some []))) (.loop (rec .ready none)); rwa [World.size_alloc] at this
  have hK1 : W1.heap[w.heap.size]? = some (.deferred (some [])) := by
    rw [← hW1]; exact (Below.heap_alloc _ _ _ (by simp)).trans (World.alloc_heap_new w _)
  have hI1 : I s0 W1 := by rw [← hW1]; exact hA _ _ _ (hA _ _ _ h0)
  refine ⟨w.heap.size + 1, [{ target := .collected w.heap.size, args := #[] }], W1, { target := .fn (.func gf) lb, args := #[.func (.yield (w.heap.size + 1)) #[] #[]] }, W1, gf,
    #[.func (.yield (w.heap.size + 1)) #[] #[]] ++ lb, W1, ?_, ?_, ?_, ?_, (fun h => by cases h), ?_⟩
  · rw [← hW1, hrec]; exact run_enterLoop_outer _ _ _ _ _
  · simp only [resolve, hg]
    simp [go_sem]
  · intro f' _; exact trivial
  · simp [invoke, go_sem, eg]
  · refine (hiter (w.heap.size + 1)
      (fun s W => I s W ∧ W.heap[w.heap.size + 1]? = some (.loop (rec .ready none)) ∧ W.heap[w.heap.size]? = some (.deferred (some [])))
      W1 (fun s W h => h.1) (fun s W n h => ⟨hdrew s W n h.1, h.2⟩) ?_ ⟨hI1, hL1, hK1⟩).mono ?_
    · rintro s W ⟨hi, hl, hk⟩ hmore
      have hlt : w.heap.size + 1 < W.heap.size := (Array.getElem?_eq_some_iff.1 hl).1
      have hy := run_yield (P := P) (args := enc s) hl (by rw [hrec]; exact hps s)
      rw [hrec] at hy
      refine ⟨fn, _, assign, body, hy, roundIn_of_wpIn (F := Fence.wide) hfn (hassign _ s W _ ⟨_, run_beginRound hl (by rw [hrec]), ?_⟩)⟩
      have hl2 : (W.putObj (w.heap.size + 1) (.loop { rec .ready none with state := .busy })).heap[w.heap.size + 1]? = some (.loop { rec .ready none with state := .busy }) := World.putObj_heap_same hlt
      have hk2 : (W.putObj (w.heap.size + 1) (.loop { rec .ready none with state := .busy })).heap[w.heap.size]? = some (.deferred (some [])) := (World.putObj_heap_other (by omega)).trans hk
      refine wpIn_mono (hbody _ s _ (hI _ _ _ _ _ hi (by omega) hl rfl rfl) hmore) ?_
      rintro e a3 W3 hp
      cases e with
      | normal =>
        obtain ⟨hk3, hi3⟩ := hp
        have hl3 := hk3.same _ _ hl2 rfl
        have hr := run_endRound (P := P) none hl3
        rw [hrec] at hr
        refine ⟨_, _, hr, rfl, hI _ _ _ _ _ hi3 (by omega) hl3 rfl rfl, ?_, (World.putObj_heap_other (by omega)).trans (hk3.same _ _ hk2 rfl)⟩
        rw [hrec]
        exact World.putObj_heap_same (Array.getElem?_eq_some_iff.1 hl3).1
      | ret => exact hp.elim
      | exit id => exact hp.elim
      | goto t => exact hp.elim
      | panic ch => exact hp.elim
      | outgrown => exact hp.elim
    · rintro e W2 ⟨⟨v, rfl⟩, s, hS, hi, hl, hk⟩
      exact ⟨none, _, by have := run_endLoop (P := P) hl (by rw [hrec]; simp); rw [hrec] at this; exact this, hdone _ s _ (Nat.le_refl _) hS (hI _ _ _ _ _ hi (by omega) hl rfl rfl) ((World.putObj_heap_other (by omega)).trans hk)⟩
/-- **The same, and each round is a step (Step), behind which the function finds what steps keep.** States of the loop: σ; I: what holds between two rounds; one: an argument of yield that may come in state s, and the state behind it. -/
theorem wp_rangeFunc_step {σ : Type} {P : Program} {g : Operand} {ps : Array Tmp} {assign body : Code} {Q : Exit → Act → World → Prop} {a : Act} {w : World}
    {gf : Nat} {lb : Array Value} (hg : a.eval g = .func (.func gf) #[] lb) (eg : ∀ args w, (callFunc gf args).run P w = .ok (.enter gf args) w)
    (I : σ → World → Prop) (hI : ∀ s W l o o', I s W → w.heap.size ≤ l → W.heap[l]? = some o → o.isCells = false → o.isWalk = false → I s (W.putObj l o'))
    (hA : ∀ s W W', I s W → Fr [] W W' → I s W') (Step : World → World → Prop) (hSp : ∀ W l o o', w.heap.size ≤ l → W.heap[l]? = some o → o.isCells = false → o.isWalk = false → Step W (W.putObj l o')) (hSt : ∀ a b c, Step a b → Step b c → Step a c)
    (s0 : σ) (h0 : I s0 w) (enc : σ → Array Value) (hps : ∀ s, (enc s).size = ps.size) (more : σ → Prop) (next : σ → σ)
    (hiter : ∀ (l : Nat) (J : σ → World → Prop) (W : World), (∀ s W, J s W → I s W) → (∀ s W W', J s W → Fr [] W W' → J s W') →
      (∀ s W, J s W → more s → YieldAt Fence.wide 0 P l (enc s) W fun e W' => e = .returned (.bool true) ∧ J (next s) W' ∧ Step W W') → J s0 W →
      CallsIn Fence.wide 0 P gf (#[.func (.yield l) #[] #[]] ++ lb) W fun e W' => (∃ v, e = .returned v) ∧ ∃ s, ¬ more s ∧ J s W')
    (a₁ : σ → Act)
    (hassign : ∀ (l : Nat) (s : σ) (W : World) (K : Act → World → Prop), K (a₁ s) W →
      assign.wpIn (Fence.wide.inRound l) 0 P (Exit.then K (fun _ _ _ => False)) { tmps := (ps.zip (enc s)).foldl (fun t (p, v) => t.setIfInBounds p v) a.tmps, defers := [] } W)
    (hbody : ∀ (l : Nat) (s : σ) (W : World), I s W → more s → body.wpIn (Fence.wide.inRound l) 0 P (offEnd (fun W' => I (next s) W' ∧ Step W W') W) (a₁ s) W)
    (hdone : ∀ (D : Nat) (s : σ) (W : World), w.heap.size ≤ D → ¬ more s → I s W → W.heap[D]? = some (.deferred (some [])) → Q .normal { a with defers := { target := .collected D, args := #[] } :: a.defers } W) :
    (Code.rangeFunc g ps assign body).wp P Q a w := by
  refine (wpIn_wide (n := 0)).1 (wpIn_rangeFunc ?_)
  intro fn hfn
  obtain ⟨rec, hrec⟩ : ∃ rec : LoopState → Option Code → Loop, rec = fun st pe => { state := st, pending := pe, fn, tmps := a.tmps, params := ps, assign, body, defers := w.heap.size } := ⟨_, rfl⟩
  obtain ⟨W1, hW1⟩ : ∃ W1, (w.alloc (.deferred (some []))).alloc (.loop (rec .ready none)) = W1 := ⟨_, rfl⟩
  have hL1 : W1.heap[w.heap.size + 1]? = some (.loop (rec .ready none)) := by
    rw [← hW1]; have := World.alloc_heap_new (w.alloc (.deferred (some []))) (.loop (rec .ready none)); rwa [World.size_alloc] at this
  have hK1 : W1.heap[w.heap.size]? = some (.deferred (some [])) := by
    rw [← hW1]; exact (Below.heap_alloc _ _ _ (by simp)).trans (World.alloc_heap_new w _)
  have hI1 : I s0 W1 := by rw [← hW1]; exact hA _ _ _ h0 (((Fr.refl [] w).alloc _).alloc _)
  refine ⟨w.heap.size + 1, [{ target := .collected w.heap.size, args := #[] }], W1, { target := .fn (.func gf) lb, args := #[.func (.yield (w.heap.size + 1)) #[] #[]] }, W1, gf,
    #[.func (.yield (w.heap.size + 1)) #[] #[]] ++ lb, W1, ?_, ?_, ?_, ?_, (fun h => by cases h), ?_⟩
  · rw [← hW1, hrec]; exact run_enterLoop_outer _ _ _ _ _
  · simp only [resolve, hg]
    simp [go_sem]
  · intro f' _; exact trivial
  · simp [invoke, go_sem, eg]
  · refine (hiter (w.heap.size + 1)
      (fun s W => I s W ∧ W.heap[w.heap.size + 1]? = some (.loop (rec .ready none)) ∧ W.heap[w.heap.size]? = some (.deferred (some [])))
      W1 (fun s W h => h.1) (fun s W W' h f => ⟨hA s W W' h.1 f, f.keeps h.2.1 (by simp), f.keeps h.2.2 (by simp)⟩) ?_ ⟨hI1, hL1, hK1⟩).mono ?_
    · rintro s W ⟨hi, hl, hk⟩ hmore
      have hlt : w.heap.size + 1 < W.heap.size := (Array.getElem?_eq_some_iff.1 hl).1
      have hy := run_yield (P := P) (args := enc s) hl (by rw [hrec]; exact hps s)
      rw [hrec] at hy
      refine ⟨fn, _, assign, body, hy, roundIn_of_wpIn (F := Fence.wide) hfn (hassign _ s W _ ⟨_, run_beginRound hl (by rw [hrec]), ?_⟩)⟩
      have hl2 : (W.putObj (w.heap.size + 1) (.loop { rec .ready none with state := .busy })).heap[w.heap.size + 1]? = some (.loop { rec .ready none with state := .busy }) := World.putObj_heap_same hlt
      have hk2 : (W.putObj (w.heap.size + 1) (.loop { rec .ready none with state := .busy })).heap[w.heap.size]? = some (.deferred (some [])) := (World.putObj_heap_other (by omega)).trans hk
      refine wpIn_mono (hbody _ s _ (hI _ _ _ _ _ hi (by omega) hl rfl rfl) hmore) ?_
      rintro e a3 W3 hp
      cases e with
      | normal =>
        obtain ⟨hk3, hi3, hst⟩ := hp
        have hl3 := hk3.same _ _ hl2 rfl
        have hr := run_endRound (P := P) none hl3
        rw [hrec] at hr
        refine ⟨_, _, hr, rfl, ⟨hI _ _ _ _ _ hi3 (by omega) hl3 rfl rfl, ?_, (World.putObj_heap_other (by omega)).trans (hk3.same _ _ hk2 rfl)⟩, hSt _ _ _ (hSp W _ _ _ (by omega) hl rfl rfl) (hSt _ _ _ hst (hSp _ _ _ _ (by omega) hl3 rfl rfl))⟩
        rw [hrec]
        exact World.putObj_heap_same (Array.getElem?_eq_some_iff.1 hl3).1
      | ret => exact hp.elim
      | exit id => exact hp.elim
      | goto t => exact hp.elim
      | panic ch => exact hp.elim
      | outgrown => exact hp.elim
    · rintro e W2 ⟨⟨v, rfl⟩, s, hS, hi, hl, hk⟩
      exact ⟨none, _, by have := run_endLoop (P := P) hl (by rw [hrec]; simp); rw [hrec] at this; exact this, hdone _ s _ (Nat.le_refl _) hS (hI _ _ _ _ _ hi (by omega) hl rfl rfl) ((World.putObj_heap_other (by omega)).trans hk)⟩
end Go.Proofs.YtneggoonlmmjeaaGreat
namespace Go.Proofs.YtneggoonlmmjeaaGreat
open Go.RowKit
set_option linter.unusedVariables false
set_option linter.unusedSimpArgs false
set_option maxRecDepth 100000

/-- Operations that tell a value, or do not end well. -/
def tells : Op → Bool
  | .move _ | .assign _ | .pick .. | .load .. | .nilCheck _ | .binOp .. | .unOp .. | .convert .. | .fieldAddr .. | .field .. | .indexAddr .. | .index .. | .makeInterface .. | .extract .. | .slice .. | .lookup .. => true
  | _ => false

theorem tell_v {P : Program} {s : Sem Value} {w w' : World} {n : Next} (h : (do pure (Next.value (← s)) : Sem Next).run P w = .ok n w') : ∃ v, n = .value v := by
  rw [Sem.run_bind] at h
  cases hs : s.run P w with
  | ok x w1 => rw [hs] at h; simp [Result.andThen, pure, Sem.run] at h; exact ⟨x, h.1.symm⟩
  | halt x w1 => rw [hs] at h; simp [Result.andThen] at h

theorem tells_pure {P : Program} {v : Value} {w w' : World} {n : Next} (h : (pure (Next.value v) : Sem Next).run P w = .ok n w') : ∃ v, n = .value v := by
  simp [pure, Sem.run] at h; exact ⟨v, h.1.symm⟩

theorem not_halt {P : Program} {w w' : World} {n : Next} (h : (runtimePanic .nilDeref : Sem Next).run P w = .ok n w') : ∃ v, n = .value v := by
  simp [runtimePanic, goPanic, program, Sem.run, Sem.run_bind, Result.andThen] at h

theorem tell_bind {α : Type} {P : Program} {s : Sem α} {k : α → Sem Next} {w w' : World} {n : Next} (h : (s >>= k).run P w = .ok n w') (hk : ∀ a w1, (k a).run P w1 = .ok n w' → ∃ v, n = .value v) : ∃ v, n = .value v := by
  rw [Sem.run_bind] at h
  cases hs : s.run P w with
  | ok x w1 => rw [hs] at h; exact hk x w1 h
  | halt x w1 => rw [hs] at h; simp [Result.andThen] at h

theorem tells_value {P : Program} {o : Oper} {ρ : Operand → Value} {w w' : World} {n : Next} (ht : tells o.op = true) (h : (execOp ρ o).run P w = .ok n w') : ∃ v, n = .value v := by
  unfold execOp at h
  cases ho : o.op <;> rw [ho] at ht h <;> simp only [tells, reduceCtorEq] at ht <;> dsimp only at h
  case nilCheck x =>
    split at h
    · exact not_halt h
    · exact not_halt h
    · exact not_halt h
    · split at h
      · exact not_halt h
      · refine tell_bind h fun p w1 h1 => tell_bind h1 fun q w2 h2 => ?_
        split at h2
        · refine tell_bind h2 fun _ w3 h3 => tells_pure h3
        · exact tells_pure h2
      · exact tells_pure h
    · exact tells_pure h
  all_goals first | exact tells_pure h | exact tell_v h | exact tell_bind h fun q w2 h2 => tells_pure h2

/-- What follows one write: the class holds, and the rest. -/
def loudPost (S : World → Prop) (K : Act → World → Prop) : Exit → Act → World → Prop
  | .normal, a, w => S w ∧ K a w
  | _, _, _ => False

/-- The walk: 'some n': n reads, each of which tells one value in every world of the class; 'none': one write, that comes alone. -/
def wpMix (P : Program) (ops : Array Oper) (S : World → Prop) (Q : Act → World → Prop) : List (Option Nat) → List Oper → Act → World → Prop
  | [], _, a, w => Q a w
  | some n :: r, l, a, w => wpQuiet P ops S (fun a' => wpMix P ops S Q r (l.drop n) a' w) (l.take n) a
  | none :: r, l, a, w => wpList P ops (loudPost S fun a' w' => wpMix P ops S Q r (l.drop 1) a' w') (l.take 1) a w

def quietB (md : Region.Mode) (ops : Array Oper) : Nat → Nat → Array Bool → Bool
  | 0, _, _ => true
  | n + 1, k, listed => (Region.ready md ops listed).contains k && Region.free md ops listed k && ((ops[k]?).map fun o => tells o.op).getD false && quietB md ops n (k + 1) (listed.setIfInBounds k true)

def marked (n k : Nat) (listed : Array Bool) : Array Bool := match n with
  | 0 => listed
  | n + 1 => marked n (k + 1) (listed.setIfInBounds k true)

def mixB (md : Region.Mode) (ops : Array Oper) : List (Option Nat) → Nat → Array Bool → Bool
  | [], k, listed => (Region.ready md ops listed).isEmpty && k == ops.size
  | some n :: r, k, listed => quietB md ops n k listed && mixB md ops r (k + n) (marked n k listed)
  | none :: r, k, listed => decide (Region.ready md ops listed = [k]) && mixB md ops r (k + 1) (listed.setIfInBounds k true)

theorem yieldsIf_of_quiet {P : Program} {ops : Array Oper} {S : World → Prop} {o : Oper} {a : Act} {K : Act → Prop} (ht : tells o.op = true)
    (h : if Region.wanted o (yielded ops a.tmps) then o.quiet P a S K else K (a.put o.dst undef)) : ∃ v, YieldsIf P ops S o v a ∧ K (a.put o.dst v) := by
  by_cases hw : Region.wanted o (yielded ops a.tmps) = true
  · simp only [hw, if_true] at h
    obtain ⟨v, h1, h2⟩ := h
    refine ⟨v, .inl ⟨hw, fun w hS => ?_⟩, h2⟩
    have h3 := h1 w hS
    unfold Oper.quietAt at h3
    cases hr : (execOp a.eval o).run P w with
    | ok n w' =>
      obtain ⟨u, rfl⟩ := tells_value ht hr
      rw [hr] at h3
      simp only [Oper.quietUpon] at h3
      rw [h3.1, h3.2]
    | halt x w' => rw [hr] at h3; simp only [Oper.quietUpon] at h3
  · simp only [hw, Bool.false_eq_true, if_false] at h
    exact ⟨undef, .inr ⟨by simpa using hw, rfl⟩, h⟩

theorem anyH_quiet {P : Program} {md : Region.Mode} {ops : Array Oper} {Q : Exit → Act → World → Prop} {S : World → Prop} {w : World} (hsel : Region.noSelect ops = true) (hQ : ∀ c a w, ¬ Q (.panic c) a w) (hS : S w)
    {K : Act → Prop} {f : Nat} : ∀ (l : List Oper) (k : Nat) (listed : Array Bool) (a : Act), (∀ j, j < l.length → l[j]? = ops[k + j]?) → quietB md ops l.length k listed = true →
      (∀ a', K a' → wpAnyH P md ops Q S f (marked l.length k listed) a' w) → wpQuiet P ops S K l a → wpAnyH P md ops Q S (l.length + f) listed a w
  | [], k, listed, a, _, _, hK, h => by rw [List.length_nil, Nat.zero_add]; exact hK a h
  | o :: l, k, listed, a, hl, hB, hK, h => by
    have h0 : ops[k]? = some o := by simpa using (hl 0 (by simp)).symm
    simp only [List.length_cons, quietB, Bool.and_eq_true, h0, Option.map_some, Option.getD_some] at hB
    obtain ⟨⟨⟨hr, hf⟩, ht⟩, hB'⟩ := hB
    obtain ⟨v, hy, hK'⟩ := yieldsIf_of_quiet (K := wpQuiet P ops S K l) ht h
    rw [List.length_cons, show l.length + 1 + f = (l.length + f) + 1 by omega]
    refine wpAnyH_take h0 hsel hf hr (fun c a w h => absurd h (hQ _ _ _)) hy hS ?_
    exact anyH_quiet hsel hQ hS l (k + 1) _ _ (fun j hj => by have := hl (j + 1) (by simp; omega); simpa [Nat.add_assoc, Nat.add_comm 1 j] using this) hB' (fun a' h' => hK a' h') hK'

theorem wp_shut {P : Program} {o : Oper} {a : Act} {w : World} {K K' : Act → World → Prop} {Q Q' : Exit → Act → World → Prop} (h : ∀ a w, K a w → K' a w) (hp : ∀ c a w, ¬ Q (.panic c) a w) (hQ : ¬ LetsOut Q)
    (hh : o.wp P a w K Q) : o.wp P a w K' Q' := by
  unfold Oper.wp at *
  generalize (execOp a.eval o).run P w = r at *
  cases r with
  | ok x w' =>
    cases x <;> simp only [Oper.upon] at hh ⊢
    case enter f args =>
      exact hh.mono fun e w'' he => by
        cases e with
        | returned v => exact h _ _ he
        | panicked c => exact absurd he (hp _ _ _)
        | outgrown => exact absurd he hQ
    case row row args => exact hh.mono fun _ _ he => h _ _ he
    all_goals exact h _ _ hh
  | halt x w' =>
    cases x <;> simp only [Oper.upon] at hh ⊢
    exact absurd hh (hp _ _ _)

theorem anyH_mix {P : Program} {md : Region.Mode} {ops : Array Oper} {Q : Exit → Act → World → Prop} {S : World → Prop} (hsel : Region.noSelect ops = true) (hQ : ∀ c a w, ¬ Q (.panic c) a w) :
    ∀ (r : List (Option Nat)) (l : List Oper) (k : Nat) (listed : Array Bool) (a : Act) (w : World), (∀ j, l[j]? = ops[k + j]?) → S w → mixB md ops r k listed = true →
      wpMix P ops S (Q .normal) r l a w → wpAnyH P md ops Q S l.length listed a w
  | [], l, k, listed, a, w, hl, hS, hB, h => by
    simp only [mixB, Bool.and_eq_true] at hB
    exact wpAnyH_done (by simpa using hB.1) h _
  | some n :: r, l, k, listed, a, w, hl, hS, hB, h => by
    simp only [mixB, Bool.and_eq_true] at hB
    simp only [wpMix] at h
    have hlen : (l.take n).length + (l.drop n).length = l.length := by simp; omega
    rw [← hlen]
    by_cases hn : n ≤ l.length
    · have htl : (l.take n).length = n := by simp; omega
      refine anyH_quiet hsel hQ hS (l.take n) k listed a (fun j hj => ?_) (by rw [htl]; exact hB.1) (fun a' h' => ?_) h
      · rw [htl] at hj
        rw [List.getElem?_take_of_lt hj]; exact hl j
      · rw [htl]
        exact anyH_mix hsel hQ r (l.drop n) (k + n) _ a' w (fun j => by rw [List.getElem?_drop, hl (n + j), Nat.add_assoc]) hS hB.2 h'
    · exfalso
      have key : ∀ (m k : Nat) (listed : Array Bool), quietB md ops m k listed = true → ∀ i, i < m → (ops[k + i]?).isSome = true := by
        intro m
        induction m with
        | zero => intro k listed _ i hi; omega
        | succ m ih =>
          intro k listed hq i hi
          simp only [quietB, Bool.and_eq_true] at hq
          cases i with
          | zero =>
            rw [Nat.add_zero]
            cases ho : ops[k]? with
            | none => rw [ho] at hq; simp at hq
            | some _ => rfl
          | succ i => rw [show k + (i + 1) = k + 1 + i by omega]; exact ih _ _ hq.2 i (by omega)
      have h1 := key n k listed hB.1 l.length (by omega)
      rw [← hl l.length] at h1
      simp at h1
  | none :: r, l, k, listed, a, w, hl, hS, hB, h => by
    simp only [mixB, Bool.and_eq_true, decide_eq_true_eq] at hB
    simp only [wpMix] at h
    cases l with
    | nil =>
      exfalso
      have h1 := hl 0
      have h2 : k ∈ Region.ready md ops listed := by rw [hB.1]; simp
      obtain ⟨_, o, ho, _⟩ := mem_ready.1 h2
      rw [Nat.add_zero, ho] at h1
      simp at h1
    | cons o l =>
      simp only [List.take_succ_cons, List.take_zero, List.drop_succ_cons, List.drop_zero] at h
      have h0 : ops[k]? = some o := by simpa using (hl 0).symm
      rw [List.length_cons]
      refine wpAnyH_all hB.1 (by simp) fun i hi => ?_
      have hik : i = k := by simpa using hi
      subst hik
      have hw : wpOp P ops (loudPost S fun a' w' => wpMix P ops S (Q .normal) r l a' w') i (fun a' w' => S w' ∧ wpMix P ops S (Q .normal) r l a' w') a w := by
        unfold wpOp; simp only [h0]; exact h
      unfold wpOp at hw ⊢
      simp only [h0] at hw ⊢
      by_cases hwn : Region.wanted o (yielded ops a.tmps) = true
      · simp only [hwn, if_true] at hw ⊢
        rcases hw with h1 | h1
        · exact .inl (wp_shut (fun a' w' h' => ⟨h'.1, anyH_mix hsel hQ r l (i + 1) _ a' w' (fun j => by have := hl (j + 1); simpa [Nat.add_assoc, Nat.add_comm 1 j] using this) h'.1 hB.2 h'.2⟩) (fun _ _ _ h => h) (fun ⟨_, _, h⟩ => h) h1)
        · exact absurd h1.2 (fun ⟨_, _, h⟩ => h)
      · simp only [hwn, Bool.false_eq_true, if_false] at hw ⊢
        exact ⟨hw.1, anyH_mix hsel hQ r l (i + 1) _ _ w (fun j => by have := hl (j + 1); simpa [Nat.add_assoc, Nat.add_comm 1 j] using this) hw.1 hB.2 hw.2⟩

/-- Nothing but going on. -/
def goesOn (Q : Exit → Act → World → Prop) : Exit → Act → World → Prop
  | .normal, a, w => Q .normal a w
  | _, _, _ => False

theorem wpAny_mix {P : Program} {Q : Exit → Act → World → Prop} {S : World → Prop} {l : List Oper} {a : Act} {w : World} (r : List (Option Nat)) (hsel : Region.noSelect l.toArray = true) (hB : mixB .any l.toArray r 0 (Array.replicate l.toArray.size false) = true) (hS : S w)
    (h : wpMix P l.toArray S (Q .normal) r l a w) : wpAny P .any l.toArray (goesOn Q) l.toArray.size (Array.replicate l.toArray.size false) a w := by
  have := anyH_mix (P := P) (md := .any) (ops := l.toArray) (Q := goesOn Q) (S := S) hsel (fun _ _ _ h => h) r l 0 (Array.replicate l.toArray.size false) a w (by simp) hS hB h
  simpa using wpAny_of_held _ _ _ _ this

theorem goesOn_imp {Q : Exit → Act → World → Prop} : ∀ (e : Exit) (a : Act) (w : World), goesOn Q e a w → Q e a w := fun e a w h => by
  cases e <;> first | exact h | exact (h : False).elim

/-- **A region that draws its order, in the plain calculus.** -/
theorem wp_region_mix {P : Program} {id : Nat} {Q : Exit → Act → World → Prop} {a : Act} {w : World} {l : List Oper} (S : World → Prop) (r : List (Option Nat)) (hm : P.follows .mixedOrders = true) (hsel : Region.noSelect l.toArray = true)
    (hB : mixB .any l.toArray r 0 (Array.replicate l.toArray.size false) = true) (hS : S w.drew)
    (h : wpMix P l.toArray S (Q .normal) r l a w.drew) : (Code.region id l.toArray true).wp P Q a w :=
  Code.wp_mono goesOn_imp (wp_region_any hm (wpAny_mix r hsel hB hS h))

/-- **The same in a round.** -/
theorem wpIn_region_mix {P : Program} {id lp n : Nat} {Q : Exit → Act → World → Prop} {a : Act} {w : World} {l : List Oper} (S : World → Prop) (r : List (Option Nat)) (hm : P.follows .mixedOrders = true) (hsel : Region.noSelect l.toArray = true)
    (hB : mixB .any l.toArray r 0 (Array.replicate l.toArray.size false) = true) (hd : noDefer l = true) (hS : S w.drew)
    (h : wpMix P l.toArray S (Q .normal) r l a w.drew) : (Code.region id l.toArray true).wpIn (Fence.wide.inRound lp) n P Q a w :=
  Code.wpIn_mono goesOn_imp (wpIn_region_any hm (wpAnyIn_round (noDefer_spec hd) (fun ⟨_, _, h⟩ => h) _ _ _ _ (wpAny_mix r hsel hB hS h)))
/-- The worlds in which p holds, as the walk likes them. -/
structure Held (p : World → Prop) where
  x : World
  ok : p x
end Go.Proofs.YtneggoonlmmjeaaGreat
namespace Go.Proofs.YtneggoonlmmjeaaGreat
open Go.RowKit
set_option linter.unusedVariables false

theorem Fr.set1 {w w' : World} {b : Nat} (h : Fr [b] w w') (i : Nat) (v : Value) : Fr [b] w (w'.setCell ⟨b, i, none⟩ v) := h.setCell _ (.inl (by focus (simp; done)))
theorem Fr.to1 {w w' : World} (b : Nat) (h : Fr [] w w') : Fr [b] w w' := h.mono (by simp)
theorem Fr.tr {L : List Nat} {a b c : World} (h : Fr L a b) (k : Fr L b c) : Fr L a c := h.trans k (fun _ hx => .inl hx)
theorem Fr.tr0 {L : List Nat} {a b c : World} (h : Fr L a b) (k : Fr [] b c) : Fr L a c := h.trans k (fun _ hx => by cases hx)
theorem Fr.setL {L : List Nat} {w w' : World} (h : Fr L w w') (b i : Nat) (v : Value) (hb : b ∈ L ∨ w.heap.size ≤ b) : Fr L w (w'.setCell ⟨b, i, none⟩ v) := h.setCell _ hb
theorem Blk.newAt (w : World) (b : Nat) (cs : Array Value) (t : TypeId) (h : b = w.heap.size) : Blk (w.alloc (.cells cs t)) b cs t := h ▸ Blk.new w cs t

end Go.Proofs.YtneggoonlmmjeaaGreat
namespace Go.Proofs.YtneggoonlmmjeaaGreat
open Go.RowKit
set_option linter.unusedVariables false
set_option linter.unusedSimpArgs false
set_option maxRecDepth 100000

/-- The slots, with x i in the slot of operation i. -/
def fill : List Oper → Nat → (Nat → Value) → Array Value → Array Value
  | [], _, _, t => t
  | o :: r, k, x, t => fill r (k + 1) x (match o.dst with | some d => t.setIfInBounds d (x k) | none => t)

theorem fill_size : ∀ (l : List Oper) (k : Nat) (x : Nat → Value) (t : Array Value), (fill l k x t).size = t.size
  | [], _, _, _ => rfl
  | o :: r, k, x, t => by
    unfold fill
    rw [fill_size r]
    cases o.dst <;> simp

theorem fill_ne : ∀ (l : List Oper) (k : Nat) (x y : Nat → Value) (t u : Array Value) (j : Nat), t[j]? = u[j]? → t.size = u.size → (∀ i o, l[i]? = some o → o.dst = some j → x (k + i) = y (k + i)) → (fill l k x t)[j]? = (fill l k y u)[j]?
  | [], _, _, _, _, _, _, h, _, _ => h
  | o :: r, k, x, y, t, u, j, h, hs, hx => by
    unfold fill
    refine fill_ne r (k + 1) x y _ _ j ?_ ?_ (fun i o' ho hd => by have := hx (i + 1) o' (by simpa using ho) hd; rwa [Nat.add_assoc, Nat.add_comm 1 i])
    · cases hd : o.dst with
      | none => exact h
      | some d =>
        by_cases e : d = j
        · subst e
          have := hx 0 o (by simp) hd
          simp only [Nat.add_zero] at this
          simp only [Array.getElem?_setIfInBounds, this, hs, if_true]
        · simp only [Array.getElem?_setIfInBounds, e, if_false]; exact h
    · cases o.dst <;> simp [hs]

theorem fill_keep : ∀ (l : List Oper) (k : Nat) (x : Nat → Value) (t : Array Value) (j : Nat), (∀ (i : Nat) (o : Oper), l[i]? = some o → o.dst ≠ some j) → (fill l k x t)[j]? = t[j]?
  | [], _, _, _, _, _ => rfl
  | o :: r, k, x, t, j, h => by
    unfold fill
    rw [fill_keep r (k + 1) x _ j (fun i o' ho => h (i + 1) o' (by simpa using ho))]
    have h0 := h 0 o (by simp)
    cases hd : o.dst with
    | none => rfl
    | some d =>
      have e : d ≠ j := fun e => h0 (by rw [hd, e])
      simp only [Array.getElem?_setIfInBounds, e, if_false]

theorem fill_at : ∀ (l : List Oper) (k : Nat) (x : Nat → Value) (t : Array Value) (i : Nat) (o : Oper) (d : Nat), l[i]? = some o → o.dst = some d → (∀ i' o', l[i']? = some o' → o'.dst = some d → i' = i) → d < t.size → (fill l k x t)[d]? = some (x (k + i))
  | [], _, _, _, _, _, _, h, _, _, _ => by simp at h
  | o :: r, k, x, t, i, p, d, h, hd, hu, hs => by
    unfold fill
    cases i with
    | zero =>
      simp only [List.getElem?_cons_zero, Option.some.injEq] at h
      subst h
      rw [fill_keep r _ _ _ d (fun i o' ho he => by have := hu (i + 1) o' (by simpa using ho) he; omega), hd]
      simp [Array.getElem?_setIfInBounds, hs]
    | succ i =>
      have := fill_at r (k + 1) x (match o.dst with | some d => t.setIfInBounds d (x k) | none => t) i p d (by simpa using h) hd
        (fun i' o' ho he => by have := hu (i' + 1) o' (by simpa using ho) he; omega) (by cases o.dst <;> simp [hs])
      rw [this, Nat.add_assoc, Nat.add_comm 1 i]

def upd (x : Nat → Value) (i : Nat) (v : Value) : Nat → Value := fun j => if j = i then v else x j

/-- No slot is written twice. -/
def apartB (l : List Oper) : Bool := (List.range l.length).all fun i => (List.range l.length).all fun j => i == j || match (l[i]?).bind (·.dst), (l[j]?).bind (·.dst) with | some d, some e => d != e | _, _ => true

theorem apart_of {l : List Oper} (h : apartB l = true) {i j : Nat} {o p : Oper} {d : Nat} (ho : l[i]? = some o) (hp : l[j]? = some p) (hd : o.dst = some d) (he : p.dst = some d) : j = i := by
  simp only [apartB, List.all_eq_true, List.mem_range] at h
  have hi : i < l.length := (List.getElem?_eq_some_iff.1 ho).1
  have hj : j < l.length := (List.getElem?_eq_some_iff.1 hp).1
  have := h i hi j hj
  rw [ho, hp] at this
  simp only [Option.bind_some, hd, he, bne_self_eq_false, Bool.or_false, beq_iff_eq] at this
  exact this.symm

theorem fill_put {l : List Oper} (h : apartB l = true) {i : Nat} {o : Oper} (ho : l[i]? = some o) (x : Nat → Value) (t : Array Value) (df : List Deferred) (v : Value) :
    ({ tmps := fill l 0 x t, defers := df } : Act).put o.dst v = { tmps := fill l 0 (upd x i v) t, defers := df } := by
  cases hd : o.dst with
  | none =>
    simp only [Act.put]
    congr 1
    refine Array.ext_getElem? fun j => fill_ne l 0 _ _ t t j rfl rfl fun i' o' ho' hd' => ?_
    have : i' ≠ i := fun e => by subst e; rw [ho] at ho'; cases ho'; rw [hd] at hd'; cases hd'
    simp [upd, this]
  | some d =>
    simp only [Act.put]
    congr 1
    refine Array.ext_getElem? fun j => ?_
    by_cases e : d = j
    · subst e
      by_cases hs : d < t.size
      · rw [fill_at l 0 _ t i o d ho hd (fun i' o' h1 h2 => apart_of h ho h1 hd h2) hs]
        simp [Array.getElem?_setIfInBounds, fill_size, hs, upd]
      · rw [Array.getElem?_eq_none (by simp only [Array.size_setIfInBounds, fill_size]; exact Nat.le_of_not_lt hs), Array.getElem?_eq_none (by simp only [Array.size_setIfInBounds, fill_size]; exact Nat.le_of_not_lt hs)]
    · rw [Array.getElem?_setIfInBounds, if_neg e]
      refine fill_ne l 0 _ _ t t j rfl rfl fun i' o' ho' hd' => ?_
      have : i' ≠ i := fun e' => by subst e'; rw [ho] at ho'; cases ho'; rw [hd] at hd'; cases hd'; exact e rfl
      simp [upd, this]

theorem fill_id : ∀ (l : List Oper) (k : Nat) (x : Nat → Value) (t : Array Value), (∀ i o d, l[i]? = some o → o.dst = some d → x (k + i) = t.getD d undef) → fill l k x t = t
  | [], _, _, _, _ => rfl
  | o :: r, k, x, t, h => by
    unfold fill
    have h0 : (match o.dst with | some d => t.setIfInBounds d (x k) | none => t) = t := by
      cases hd : o.dst with
      | none => rfl
      | some d =>
        have := h 0 o d (by simp) hd
        simp only [Nat.add_zero] at this
        refine Array.ext_getElem? fun j => ?_
        rw [Array.getElem?_setIfInBounds]
        split
        · rename_i e; subst e
          by_cases hs : d < t.size
          · simp [hs, this, Array.getD]
          · simp [hs]
        · rfl
    rw [h0]
    exact fill_id r (k + 1) x t fun i o' d ho hd => by have := h (i + 1) o' d (by simpa using ho) hd; rwa [Nat.add_assoc, Nat.add_comm 1 i]

/-- What operation o waits for, among the operations. -/
def waits (md : Region.Mode) (o : Oper) : List Nat := (o.after.toList.filter fun e => Region.binds md e).map (·.on)

/-- Each waits but for earlier ones. -/
def topoB (md : Region.Mode) (l : List Oper) : Bool := (List.range l.length).all fun i => match l[i]? with | some o => (waits md o).all fun j => decide (j < i) | none => true

def holds (V : Nat → World → Value → Prop) (w : World) (x : Nat → Value) : List Nat → Prop
  | [] => True
  | i :: r => V i w (x i) ∧ holds V w x r

theorem holds_of {V : Nat → World → Value → Prop} {w : World} {x : Nat → Value} : ∀ {l : List Nat}, (∀ i ∈ l, V i w (x i)) → holds V w x l
  | [], _ => trivial
  | i :: r, h => ⟨h i (by simp), holds_of fun j hj => h j (by simp [hj])⟩

def parSteps (P : Program) (md : Region.Mode) (l : List Oper) (Q : Exit → Act → World → Prop) (L : List Nat) (V : Nat → World → Value → Prop) (t : Array Value) (df : List Deferred) (w : World) : List Oper → Nat → Prop
  | [], _ => True
  | o :: r, i => (∀ (x : Nat → Value) (w' : World), Fr L w w' → holds V w' x (waits md o) → ∀ K : Act → World → Prop, Shut (∀ v w'', Fr L w' w'' → V i w'' v → K (({ tmps := fill l 0 x t, defers := df } : Act).put o.dst v) w'') →
      if Region.wanted o (yielded l.toArray ({ tmps := fill l 0 x t, defers := df } : Act).tmps) = true then o.wp P { tmps := fill l 0 x t, defers := df } w' K Q else K (({ tmps := fill l 0 x t, defers := df } : Act).put o.dst undef) w') ∧
    parSteps P md l Q L V t df w r (i + 1)

theorem parSteps_at {P : Program} {md : Region.Mode} {l : List Oper} {Q : Exit → Act → World → Prop} {L : List Nat} {V : Nat → World → Value → Prop} {t : Array Value} {df : List Deferred} {w : World} :
    ∀ {r : List Oper} {k : Nat}, parSteps P md l Q L V t df w r k → ∀ {i : Nat} {o : Oper}, r[i]? = some o →
      ∀ (x : Nat → Value) (w' : World), Fr L w w' → holds V w' x (waits md o) → ∀ K : Act → World → Prop, (∀ v w'', Fr L w' w'' → V (k + i) w'' v → K (({ tmps := fill l 0 x t, defers := df } : Act).put o.dst v) w'') →
      if Region.wanted o (yielded l.toArray ({ tmps := fill l 0 x t, defers := df } : Act).tmps) = true then o.wp P { tmps := fill l 0 x t, defers := df } w' K Q else K (({ tmps := fill l 0 x t, defers := df } : Act).put o.dst undef) w'
  | [], _, _, _, _, h => by simp at h
  | o :: r, k, hh, 0, p, h => by simp at h; subst h; exact hh.1
  | o :: r, k, hh, i + 1, p, h => by
    have := parSteps_at hh.2 (i := i) (by simpa using h)
    rw [show k + (i + 1) = k + 1 + i by omega]; exact this

theorem wpAny_par {P : Program} {md : Region.Mode} {l : List Oper} {Q : Exit → Act → World → Prop} {L : List Nat} {V : Nat → World → Value → Prop} {t : Array Value} {df : List Deferred} {w : World}
    (hA : apartB l = true) (hT : topoB md l = true) (hV : ∀ i w w' v, i < l.length → Fr L w w' → V i w v → V i w' v) (hS : parSteps P md l Q L V t df w l 0)
    (hD : ∀ x w', Fr L w w' → holds V w' x (List.range l.length) → Q .normal { tmps := fill l 0 x t, defers := df } w') :
    ∀ (f : Nat) (listed : Array Bool) (x : Nat → Value) (w' : World), listed.size = l.length → (listed.toList.filter (! ·)).length ≤ f → Fr L w w' → (∀ i, listed[i]? = some true → V i w' (x i)) →
      wpAny P md l.toArray Q f listed { tmps := fill l 0 x t, defers := df } w' := by
  have nil : ∀ (listed : Array Bool) (x : Nat → Value) (w' : World), listed.size = l.length → Fr L w w' → (∀ i, listed[i]? = some true → V i w' (x i)) → Region.ready md l.toArray listed = [] → Q .normal { tmps := fill l 0 x t, defers := df } w' := by
    intro listed x w' hn hf hv hr
    have all : ∀ n i, i < n → i < l.length → listed[i]? = some true := by
      intro n
      induction n with
      | zero => intro i hi; omega
      | succ n ih =>
        intro i hi hil
        by_cases hb : listed[i]? = some true
        · exact hb
        · exfalso
          have hlt : i < listed.size := by omega
          have hb' : listed[i]? = some false := by
            rw [Array.getElem?_eq_getElem hlt] at hb ⊢
            cases hx : listed[i] with
            | false => rfl
            | true => rw [hx] at hb; exact absurd rfl hb
          have : i ∈ Region.ready md l.toArray listed := by
            refine mem_ready.2 ⟨by simp [Array.getD_eq_getD_getElem?, hb'], l[i], by simp [hil], fun e he hbd => ?_⟩
            simp only [topoB, List.all_eq_true, List.mem_range] at hT
            have h1 := hT i hil
            rw [List.getElem?_eq_getElem hil] at h1
            simp only [List.all_eq_true, decide_eq_true_eq] at h1
            have h2 := h1 e.on (by simp only [waits, List.mem_map, List.mem_filter]; exact ⟨e, ⟨by simpa using he, hbd⟩, rfl⟩)
            have h3 := ih e.on (by omega) (by omega)
            simp [Array.getD_eq_getD_getElem?, h3]
          rw [hr] at this
          cases this
    exact hD x w' hf (holds_of fun i hi => hv i (all (i + 1) i (by omega) (List.mem_range.1 hi)))
  intro f
  induction f with
  | zero =>
    intro listed x w' hn hc hf hv
    have hnone : Region.ready md l.toArray listed = [] := by
      rw [List.eq_nil_iff_forall_not_mem]
      intro i hi
      obtain ⟨h1, o, ho, _⟩ := mem_ready.1 hi
      have hil : i < l.length := by have := (Array.getElem?_eq_some_iff.1 ho).1; simpa using this
      have hlt : i < listed.size := by omega
      have : false ∈ listed.toList.filter (! ·) := by
        rw [List.mem_filter]
        refine ⟨?_, rfl⟩
        simp [Array.getD_eq_getD_getElem?, Array.getElem?_eq_getElem hlt] at h1
        rw [← h1]; simp
      rw [List.length_eq_zero_iff.1 (Nat.le_zero.1 hc)] at this
      cases this
    exact ⟨hnone, nil listed x w' hn hf hv hnone⟩
  | succ f ih =>
    intro listed x w' hn hc hf hv
    refine ⟨nil listed x w' hn hf hv, fun i hi => ?_⟩
    obtain ⟨h1, o, ho, h2⟩ := mem_ready.1 hi
    have ho' : l[i]? = some o := by simpa using ho
    have hil : i < l.length := (List.getElem?_eq_some_iff.1 ho').1
    have hlt : i < listed.size := by omega
    have hst := parSteps_at hS ho' x w' hf (holds_of fun j hj => by
      simp only [waits, List.mem_map, List.mem_filter] at hj
      obtain ⟨e, ⟨he, hb⟩, rfl⟩ := hj
      have h3 := h2 e (by simpa using he) hb
      refine hv _ ?_
      rw [Array.getD_eq_getD_getElem?] at h3
      cases h4 : listed[e.on]? with
      | none => rw [h4] at h3; cases h3
      | some b => rw [h4] at h3; simp at h3; rw [h3])
    refine wpOp_step ho fun K' hK => hst K' fun v w'' hf2 hv2 => ?_
    rw [fill_put hA ho']
    refine hK _ _ (ih _ _ _ (by simp [hn]) ?_ (hf.tr hf2) fun j hj => ?_)
    · have h5 : listed[i] = false := by
        simpa [Array.getD_eq_getD_getElem?, Array.getElem?_eq_getElem hlt] using h1
      have key : ∀ (m : List Bool) (i : Nat) (h : i < m.length), m[i] = false → ((m.set i true).filter (! ·)).length + 1 = (m.filter (! ·)).length := by
        intro m
        induction m with
        | nil => intro i h; simp at h
        | cons b m ih2 =>
          intro i h hb
          cases i with
          | zero => simp at hb; subst hb; simp
          | succ i =>
            have := ih2 i (by simpa using h) (by simpa using hb)
            simp only [List.set_cons_succ, List.filter_cons]
            split <;> simp [this]
      have := key listed.toList i (by simpa using hlt) (by simpa using h5)
      simp only [Array.toList_setIfInBounds]
      omega
    · by_cases e : i = j
      · subst e; simp only [upd, if_true]; simpa using hv2
      · rw [Array.getElem?_setIfInBounds, if_neg e] at hj
        simp only [upd, if_neg (Ne.symm e)]
        have hjl : j < l.length := by have := (Array.getElem?_eq_some_iff.1 hj).1; omega
        exact hV j _ _ _ hjl hf2 (hv j hj)

/-- **A region that draws its order, each of whose operations yields a value of which V tells a fact that the others keep.** -/
theorem wp_region_par {P : Program} {id : Nat} {Q : Exit → Act → World → Prop} {t : Array Value} {df : List Deferred} {w : World} {l : List Oper} (L : List Nat) (V : Nat → World → Value → Prop) (hm : P.follows .mixedOrders = true)
    (hA : apartB l = true) (hT : topoB .any l = true) (hV : ∀ i w w' v, i < l.length → Fr L w w' → V i w v → V i w' v) (hS : parSteps P .any l Q L V t df w l 0)
    (hD : ∀ x w', Fr L w w' → holds V w' x (List.range l.length) → Q .normal { tmps := fill l 0 x t, defers := df } w') : (Code.region id l.toArray true).wp P Q { tmps := t, defers := df } w := by
  refine wp_region_any hm ?_
  have h := wpAny_par hA hT hV hS hD l.toArray.size (Array.replicate l.toArray.size false) (fun i => ((l[i]?).bind (·.dst)).elim undef fun d => t.getD d undef) { w with drawn := w.drawn + 1 } (by simp)
    (by simp) ((Fr.refl L w).drewN 1) (fun i hi => by rw [Array.getElem?_replicate] at hi; split at hi <;> cases hi)
  rw [fill_id] at h
  · exact h
  · intro i o d ho hd
    rw [Nat.zero_add, ho]
    simp [hd]

/-- What must have come up ahead of those of acc. -/
def clo (md : Region.Mode) (l : List Oper) : Nat → List Nat → List Nat
  | 0, acc => acc
  | i + 1, acc => clo md l i (if acc.contains i then acc ++ (match l[i]? with | some o => waits md o | none => []) else acc)

theorem clo_of {md : Region.Mode} {l : List Oper} {p : Nat → Prop} (hp : ∀ (j : Nat) (o : Oper), l[j]? = some o → p j → ∀ i ∈ waits md o, p i) : ∀ (k : Nat) (acc : List Nat), (∀ i ∈ acc, p i) → ∀ i ∈ clo md l k acc, p i
  | 0, acc, h => h
  | k + 1, acc, h => by
    unfold clo
    refine clo_of hp k _ fun i hi => ?_
    split at hi
    · rename_i hk
      rcases List.mem_append.1 hi with h1 | h1
      · exact h i h1
      · cases ho : l[k]? with
        | none => rw [ho] at h1; cases h1
        | some o => rw [ho] at h1; exact hp k o ho (h k (by simpa using hk)) i h1
    · exact h i hi

theorem wpAny_parL {P : Program} {md : Region.Mode} {l : List Oper} {z : Oper} {Q : Exit → Act → World → Prop} {L : List Nat} {V : Nat → World → Value → Prop} {t : Array Value} {df : List Deferred} {w : World}
    (hA : apartB (l ++ [z]) = true) (hT : topoB md (l ++ [z]) = true) (hW : ((List.range l.length).all fun i => (clo md (l ++ [z]) l.length (waits md z)).contains i) = true) (hV : ∀ i w w' v, i < l.length → Fr L w w' → V i w v → V i w' v) (hS : parSteps P md (l ++ [z]) Q L V t df w l 0)
    (hD : ∀ x w', Fr L w w' → holds V w' x (List.range l.length) → if Region.wanted z (yielded (l ++ [z]).toArray ({ tmps := fill (l ++ [z]) 0 x t, defers := df } : Act).tmps) = true then z.wp P { tmps := fill (l ++ [z]) 0 x t, defers := df } w' (Q .normal) Q else Q .normal (({ tmps := fill (l ++ [z]) 0 x t, defers := df } : Act).put z.dst undef) w') :
    ∀ (f : Nat) (listed : Array Bool) (x : Nat → Value) (w' : World), listed.size = l.length + 1 → listed[l.length]? = some false → (∀ (j : Nat) (o : Oper), (l ++ [z])[j]? = some o → listed[j]? = some true → ∀ i ∈ waits md o, listed[i]? = some true) → (listed.toList.filter (! ·)).length ≤ f → Fr L w w' → (∀ i, i < l.length → listed[i]? = some true → V i w' (x i)) →
      wpAny P md (l ++ [z]).toArray Q f listed { tmps := fill (l ++ [z]) 0 x t, defers := df } w' := by
  have hz : (l ++ [z])[l.length]? = some z := by simp
  have nil : ∀ (listed : Array Bool), listed.size = l.length + 1 → listed[l.length]? = some false → Region.ready md (l ++ [z]).toArray listed = [] → False := by
    intro listed hn hlast hr
    have all : ∀ n i, i < n → i < l.length + 1 → listed[i]? = some true := by
      intro n
      induction n with
      | zero => intro i hi; omega
      | succ n ih =>
        intro i hi hil
        by_cases hb : listed[i]? = some true
        · exact hb
        · exfalso
          have hlt : i < listed.size := by omega
          have hb' : listed[i]? = some false := by
            rw [Array.getElem?_eq_getElem hlt] at hb ⊢
            cases hx : listed[i] with
            | false => rfl
            | true => rw [hx] at hb; exact absurd rfl hb
          have hil' : i < (l ++ [z]).length := by simpa using hil
          have : i ∈ Region.ready md (l ++ [z]).toArray listed := by
            refine mem_ready.2 ⟨by simp [Array.getD_eq_getD_getElem?, hb'], (l ++ [z])[i], by rw [List.getElem?_toArray, List.getElem?_eq_getElem hil'], fun e he hbd => ?_⟩
            simp only [topoB, List.all_eq_true, List.mem_range] at hT
            have h1 := hT i hil'
            rw [List.getElem?_eq_getElem hil'] at h1
            simp only [List.all_eq_true, decide_eq_true_eq] at h1
            have h2 := h1 e.on (by simp only [waits, List.mem_map, List.mem_filter]; exact ⟨e, ⟨by simpa using he, hbd⟩, rfl⟩)
            have h3 := ih e.on (by omega) (by omega)
            simp [Array.getD_eq_getD_getElem?, h3]
          rw [hr] at this
          cases this
    have := all (l.length + 1) l.length (by omega) (by omega)
    rw [hlast] at this
    cases this
  have key : ∀ (m : List Bool) (i : Nat) (h : i < m.length), m[i] = false → ((m.set i true).filter (! ·)).length + 1 = (m.filter (! ·)).length := by
    intro m
    induction m with
    | nil => intro i h; simp at h
    | cons b m ih2 =>
      intro i h hb
      cases i with
      | zero => simp at hb; subst hb; simp
      | succ i =>
        have := ih2 i (by simpa using h) (by simpa using hb)
        simp only [List.set_cons_succ, List.filter_cons]
        split <;> simp [this]
  intro f
  induction f with
  | zero =>
    intro listed x w' hn hlast hdc hc hf hv
    exfalso
    have hlt : l.length < listed.size := by omega
    have : false ∈ listed.toList.filter (! ·) := by
      rw [List.mem_filter]
      refine ⟨?_, rfl⟩
      rw [Array.getElem?_eq_getElem hlt, Option.some.injEq] at hlast
      rw [← hlast]; simp
    rw [List.length_eq_zero_iff.1 (Nat.le_zero.1 hc)] at this
    cases this
  | succ f ih =>
    intro listed x w' hn hlast hdc hc hf hv
    refine ⟨fun hr => (nil listed hn hlast hr).elim, fun i hi => ?_⟩
    obtain ⟨h1, o, ho, h2⟩ := mem_ready.1 hi
    have ho' : (l ++ [z])[i]? = some o := by simpa using ho
    have hil : i < l.length + 1 := by have := (List.getElem?_eq_some_iff.1 ho').1; simpa using this
    have hlt : i < listed.size := by omega
    have h5 : listed[i] = false := by
      simpa [Array.getD_eq_getD_getElem?, Array.getElem?_eq_getElem hlt] using h1
    by_cases hiz : i = l.length
    · subst hiz
      rw [hz, Option.some.injEq] at ho'
      subst ho'
      have hwz : ∀ i ∈ waits md z, listed[i]? = some true := fun i hi => by
        simp only [waits, List.mem_map, List.mem_filter] at hi
        obtain ⟨e, ⟨he, hb⟩, rfl⟩ := hi
        have h4 := h2 e (by simpa using he) hb
        rw [Array.getD_eq_getD_getElem?] at h4
        cases h6 : listed[e.on]? with
        | none => rw [h6] at h4; cases h4
        | some b => rw [h6] at h4; simp at h4; rw [h4]
      have hall : ∀ j, j < l.length → listed[j]? = some true := fun j hj => by
        simp only [List.all_eq_true, List.mem_range, List.contains_eq_mem, decide_eq_true_eq] at hW
        exact clo_of (p := fun j => listed[j]? = some true) hdc _ _ hwz j (hW j hj)
      have hd := hD x w' hf (holds_of fun j hj => hv j (List.mem_range.1 hj) (hall j (List.mem_range.1 hj)))
      have hdone : Region.ready md (l ++ [z]).toArray (listed.setIfInBounds l.length true) = [] := by
        rw [List.eq_nil_iff_forall_not_mem]
        intro k hk
        obtain ⟨g1, p, hp, _⟩ := mem_ready.1 hk
        have hkl : k < l.length + 1 := by have := (Array.getElem?_eq_some_iff.1 hp).1; simpa using this
        rw [Array.getD_eq_getD_getElem?, Array.getElem?_setIfInBounds] at g1
        by_cases e : l.length = k
        · rw [if_pos e, if_pos (by omega)] at g1; simp at g1
        · rw [if_neg e, hall k (by omega)] at g1; simp at g1
      refine wpOp_mono (fun a' w'' hq => wpAny_done hdone hq f) ?_
      unfold wpOp
      rw [show (l ++ [z]).toArray[l.length]? = some z by simp]
      dsimp only
      by_cases hwn : Region.wanted z (yielded (l ++ [z]).toArray (fill (l ++ [z]) 0 x t)) = true
      · rw [if_pos hwn] at hd ⊢
        exact .inl hd
      · rw [if_neg hwn] at hd ⊢
        exact hd
    · have hil' : i < l.length := by omega
      have hol : l[i]? = some o := by rwa [List.getElem?_append_left hil'] at ho'
      have hdc' : ∀ (u : Unit) (j : Nat) (o : Oper), (l ++ [z])[j]? = some o → (listed.setIfInBounds i true)[j]? = some true → ∀ k ∈ waits md o, (listed.setIfInBounds i true)[k]? = some true := fun _ j p hp hj k hk => by
        have keepk : listed[k]? = some true → (listed.setIfInBounds i true)[k]? = some true := fun h => by
          rw [Array.getElem?_setIfInBounds]
          by_cases e : i = k
          · rw [if_pos e, if_pos hlt]
          · rw [if_neg e]; exact h
        by_cases e : i = j
        · subst e
          rw [ho'] at hp
          cases hp
          simp only [waits, List.mem_map, List.mem_filter] at hk
          obtain ⟨e, ⟨he, hb⟩, rfl⟩ := hk
          have h4 := h2 e (by simpa using he) hb
          rw [Array.getD_eq_getD_getElem?] at h4
          refine keepk ?_
          cases h6 : listed[e.on]? with
          | none => rw [h6] at h4; cases h4
          | some b => rw [h6] at h4; simp at h4; rw [h4]
        · rw [Array.getElem?_setIfInBounds, if_neg e] at hj
          exact keepk (hdc j p hp hj k hk)
      have hst := parSteps_at hS hol x w' hf (holds_of fun j hj => by
        simp only [waits, List.mem_map, List.mem_filter] at hj
        obtain ⟨e, ⟨he, hb⟩, rfl⟩ := hj
        have h3 := h2 e (by simpa using he) hb
        have hji : e.on < i := by
          simp only [topoB, List.all_eq_true, List.mem_range] at hT
          have g1 := hT i (by simp; omega)
          rw [ho'] at g1
          simp only [List.all_eq_true, decide_eq_true_eq] at g1
          exact g1 e.on (by simp only [waits, List.mem_map, List.mem_filter]; exact ⟨e, ⟨he, hb⟩, rfl⟩)
        refine hv _ (by omega) ?_
        rw [Array.getD_eq_getD_getElem?] at h3
        cases h4 : listed[e.on]? with
        | none => rw [h4] at h3; cases h3
        | some b => rw [h4] at h3; simp at h3; rw [h3])
      refine wpOp_step ho fun K' hK => hst K' fun v w'' hf2 hv2 => ?_
      rw [fill_put hA ho']
      refine hK _ _ (ih _ _ _ (by simp [hn]) (by rw [Array.getElem?_setIfInBounds, if_neg hiz]; exact hlast) (hdc' ()) ?_ (hf.tr hf2) fun j hjl hj => ?_)
      · have := key listed.toList i (by simpa using hlt) (by simpa using h5)
        simp only [Array.toList_setIfInBounds]
        omega
      · by_cases e : i = j
        · subst e; simp only [upd, if_true]; simpa using hv2
        · rw [Array.getElem?_setIfInBounds, if_neg e] at hj
          simp only [upd, if_neg (Ne.symm e)]
          exact hV j _ _ _ hjl hf2 (hv j hjl hj)

/-- The same, and the last operation comes alone, behind all others. -/
theorem wp_region_parL {P : Program} {id : Nat} {Q : Exit → Act → World → Prop} {t : Array Value} {df : List Deferred} {w : World} (l : List Oper) (z : Oper) (L : List Nat) (V : Nat → World → Value → Prop) {all : List Oper} (he : all = l ++ [z]) (hm : P.follows .mixedOrders = true)
    (hA : apartB (l ++ [z]) = true) (hT : topoB .any (l ++ [z]) = true) (hW : ((List.range l.length).all fun i => (clo .any (l ++ [z]) l.length (waits .any z)).contains i) = true) (hV : ∀ i w w' v, i < l.length → Fr L w w' → V i w v → V i w' v) (hS : parSteps P .any (l ++ [z]) Q L V t df w l 0)
    (hD : ∀ x w', Fr L w w' → holds V w' x (List.range l.length) → if Region.wanted z (yielded (l ++ [z]).toArray ({ tmps := fill (l ++ [z]) 0 x t, defers := df } : Act).tmps) = true then z.wp P { tmps := fill (l ++ [z]) 0 x t, defers := df } w' (Q .normal) Q else Q .normal (({ tmps := fill (l ++ [z]) 0 x t, defers := df } : Act).put z.dst undef) w') :
    (Code.region id all.toArray true).wp P Q { tmps := t, defers := df } w := by
  subst he
  refine wp_region_any hm ?_
  have h := wpAny_parL hA hT hW hV hS hD (l ++ [z]).toArray.size (Array.replicate (l ++ [z]).toArray.size false) (fun i => (((l ++ [z])[i]?).bind (·.dst)).elim undef fun d => t.getD d undef) { w with drawn := w.drawn + 1 } (by simp) (by simp) (fun j o _ hj => by rw [Array.getElem?_replicate] at hj; split at hj <;> cases hj)
    (by simp) ((Fr.refl L w).drewN 1) (fun i _ hi => by rw [Array.getElem?_replicate] at hi; split at hi <;> cases hi)
  rw [fill_id] at h
  · exact h
  · intro i o d ho hd
    rw [Nat.zero_add, ho]
    simp [hd]

/-- A fact on a value that the others keep. -/
def Keeps (L : List Nat) (p : World → Value → Prop) : Prop := ∀ w w' v, Fr L w w' → p w v → p w' v
def nth : List (World → Value → Prop) → Nat → World → Value → Prop
  | [], _ => fun _ _ => True
  | p :: _, 0 => p
  | _ :: r, i + 1 => nth r i
def KeepsAll (L : List Nat) : List (World → Value → Prop) → Prop
  | [] => True
  | p :: r => Keeps L p ∧ KeepsAll L r
theorem KeepsAll.nth {L : List Nat} : ∀ {l : List (World → Value → Prop)}, KeepsAll L l → ∀ i, Keeps L (nth l i)
  | [], _, _ => fun _ _ _ _ h => h
  | _ :: _, h, 0 => h.1
  | _ :: _, h, i + 1 => KeepsAll.nth h.2 i

/-- It is this value. -/
def Is (v0 : Value) : World → Value → Prop := fun _ v => v = v0
theorem Is.keeps {L : List Nat} (v0 : Value) : Keeps L (Is v0) := fun _ _ _ _ h => h
def Any : World → Value → Prop := fun _ _ => True
theorem Any.keeps {L : List Nat} : Keeps L Any := fun _ _ _ _ h => h
/-- A slice of a block that is not among those that change. -/
def IsSl (L : List Nat) (cs : Array Value) (t : TypeId) (n : Nat) : World → Value → Prop := fun w v => ∃ b, v = .slice (some ⟨b, 0, none⟩) n n ∧ Blk w b cs t ∧ b ∉ L
theorem IsSl.keeps {L : List Nat} (cs : Array Value) (t : TypeId) (n : Nat) : Keeps L (IsSl L cs t n) := fun _ _ _ hf ⟨b, e, h, hn⟩ => ⟨b, e, h.fr hf hn, hn⟩

theorem IsSl.new (cs : Array Value) (t : TypeId) (n : Nat) (w : World) : IsSl [] cs t n (w.alloc (.cells cs t)) (.slice (some ⟨w.heap.size, 0, none⟩) n n) := ⟨_, rfl, Blk.new _ _ _, by simp⟩

/-- What an operation finds, of the slots that the region writes. -/
def holdsA (V : Nat → World → Value → Prop) (w : World) (a : Act) (l : List Oper) : List Nat → Prop
  | [] => True
  | i :: r => (match (l[i]?).bind (·.dst) with | some d => V i w (a.tmps.getD d undef) | none => True) ∧ holdsA V w a l r

/-- The operations, one by one, at whatever state: the slots that the region does not write are as they were. -/
def parStepsA (P : Program) (md : Region.Mode) (l : List Oper) (Q : Exit → Act → World → Prop) (L : List Nat) (V : Nat → World → Value → Prop) (t : Array Value) (w : World) : List Oper → Nat → Prop
  | [], _ => True
  | o :: r, i => (∀ (a : Act) (w' : World), Fr L w w' → (∀ k, (l.all fun o => o.dst != some k) = true → a.tmps.getD k undef = t.getD k undef) → holdsA V w' a l (waits md o) → ∀ K : Act → World → Prop, Shut (∀ v w'', Fr L w' w'' → V i w'' v → K (a.put o.dst v) w'') →
      if Region.wanted o (yielded l.toArray a.tmps) = true then o.wp P a w' K Q else K (a.put o.dst undef) w') ∧
    parStepsA P md l Q L V t w r (i + 1)

theorem holdsA_of {V : Nat → World → Value → Prop} {w : World} {x : Nat → Value} {l : List Oper} {t : Array Value} {df : List Deferred} (hA : apartB l = true) (hsz : (l.all fun o => match o.dst with | some d => decide (d < t.size) | none => true) = true) :
    ∀ {m : List Nat}, holds V w x m → holdsA V w { tmps := fill l 0 x t, defers := df } l m
  | [], _ => trivial
  | i :: r, h => by
    refine ⟨?_, holdsA_of hA hsz h.2⟩
    cases ho : l[i]? with
    | none => trivial
    | some o =>
      cases hd : o.dst with
      | none => simp only [Option.bind_some, hd]
      | some d =>
        simp only [Option.bind_some, hd]
        have hs : d < t.size := by
          simp only [List.all_eq_true] at hsz
          have := hsz o (List.mem_of_getElem? ho)
          rw [hd] at this
          simpa using this
        have := fill_at l 0 x t i o d ho hd (fun i' o' h1 h2 => apart_of hA ho h1 hd h2) hs
        rw [Array.getD_eq_getD_getElem?, this]
        simpa using h.1

theorem parSteps_of {P : Program} {md : Region.Mode} {l : List Oper} {Q : Exit → Act → World → Prop} {L : List Nat} {V : Nat → World → Value → Prop} {t : Array Value} {df : List Deferred} {w : World} (hA : apartB l = true) (hsz : (l.all fun o => match o.dst with | some d => decide (d < t.size) | none => true) = true) :
    ∀ {r : List Oper} {k : Nat}, parStepsA P md l Q L V t w r k → parSteps P md l Q L V t df w r k
  | [], _, _ => trivial
  | o :: r, k, h => ⟨fun x w' hf hp K hK => h.1 _ w' hf (fun j hj => by
      rw [Array.getD_eq_getD_getElem?, Array.getD_eq_getD_getElem?, fill_keep l 0 x t j (fun i o' ho' he => by
        simp only [List.all_eq_true, bne_iff_ne, ne_eq] at hj
        exact hj o' (List.mem_of_getElem? ho') he)]) (holdsA_of hA hsz hp) K hK, parSteps_of hA hsz h.2⟩

theorem wp_region_keeps {P : Program} {id : Nat} {Q : Exit → Act → World → Prop} {t : Array Value} {df : List Deferred} {w : World} {l : List Oper} (L : List Nat) (Vs : List (World → Value → Prop)) (hm : P.follows .mixedOrders = true)
    (hA : apartB l = true) (hT : topoB .any l = true) (hsz : (l.all fun o => match o.dst with | some d => decide (d < t.size) | none => true) = true) (hV : KeepsAll L Vs) (hS : parStepsA P .any l Q L (nth Vs) t w l 0)
    (hD : ∀ x w', Fr L w w' → holds (nth Vs) w' x (List.range l.length) → Q .normal { tmps := fill l 0 x t, defers := df } w') : (Code.region id l.toArray true).wp P Q { tmps := t, defers := df } w :=
  wp_region_par L (nth Vs) hm hA hT (fun i _ _ _ _ hf h => hV.nth i _ _ _ hf h) (parSteps_of hA hsz hS) hD

/-- The same, and operation number n, the last, comes alone. -/
theorem wp_region_keepsL {P : Program} {id : Nat} {Q : Exit → Act → World → Prop} {t : Array Value} {df : List Deferred} {w : World} {all : List Oper} (L : List Nat) (Vs : List (World → Value → Prop)) (n : Nat) {z : Oper} (hz : all[n]? = some z) (hn : all.length = n + 1) (hm : P.follows .mixedOrders = true)
    (hA : apartB all = true) (hT : topoB .any all = true) (hsz : (all.all fun o => match o.dst with | some d => decide (d < t.size) | none => true) = true) (hW : ((List.range n).all fun i => (clo .any all n (waits .any z)).contains i) = true) (hV : KeepsAll L Vs) (hS : parStepsA P .any all Q L (nth Vs) t w (all.take n) 0)
    (hD : ∀ x w', Fr L w w' → holds (nth Vs) w' x (List.range n) → if Region.wanted z (yielded all.toArray (fill all 0 x t)) = true then z.wp P { tmps := fill all 0 x t, defers := df } w' (Q .normal) Q else Q .normal (({ tmps := fill all 0 x t, defers := df } : Act).put z.dst undef) w') :
    (Code.region id all.toArray true).wp P Q { tmps := t, defers := df } w := by
  have e : all = all.take n ++ [z] := by
    have h1 : n < all.length := by omega
    have h2 : all[n] = z := by
      rw [List.getElem?_eq_getElem h1] at hz; simpa using hz
    rw [← h2, List.take_append_getElem h1, ← hn, List.take_length]
  have hl : (all.take n).length = n := by simp; omega
  have hS' := parSteps_of (df := df) hA hsz hS
  refine wp_region_parL (all.take n) z L (nth Vs) e hm (by rw [← e]; exact hA) (by rw [← e]; exact hT) (by rw [← e, hl]; exact hW) (fun i _ _ _ _ hf h => hV.nth i _ _ _ hf h) (by rw [← e]; exact hS') ?_
  rw [← e, hl]
  exact hD
theorem zA : type_of% (And.intro (@waits.eq_1) (And.intro (@holdsA.eq_1) (And.intro (@holdsA.eq_2) (And.intro (@nth.eq_1) (And.intro (@nth.eq_2) (And.intro (@nth.eq_3) (And.intro (@Is.eq_1) (And.intro (@Any.eq_1) (And.intro (@List.filter_cons.{0}) (And.intro (@List.filter_nil.{0}) (And.intro (@List.map_cons.{0, 0}) (And.intro (@List.map_nil.{0, 0}) (And.intro (@if_true.{1}) (And.intro (@true_and) (And.intro (@and_true) (And.intro (@List.getElem?_cons_zero.{0}) (And.intro (@List.getElem?_cons_succ.{0}) (And.intro (@Option.bind_some.{0, 0}) (@Array.getD_eq_getD_getElem?.{0}))))))))))))))))))) := And.intro (@waits.eq_1) (And.intro (@holdsA.eq_1) (And.intro (@holdsA.eq_2) (And.intro (@nth.eq_1) (And.intro (@nth.eq_2) (And.intro (@nth.eq_3) (And.intro (@Is.eq_1) (And.intro (@Any.eq_1) (And.intro (@List.filter_cons.{0}) (And.intro (@List.filter_nil.{0}) (And.intro (@List.map_cons.{0, 0}) (And.intro (@List.map_nil.{0, 0}) (And.intro (@if_true.{1}) (And.intro (@true_and) (And.intro (@and_true) (And.intro (@List.getElem?_cons_zero.{0}) (And.intro (@List.getElem?_cons_succ.{0}) (And.intro (@Option.bind_some.{0, 0}) (@Array.getD_eq_getD_getElem?.{0}))))))))))))))))))
end Go.Proofs.YtneggoonlmmjeaaGreat
namespace Go.Proofs.YtneggoonlmmjeaaGreat
open Go.RowKit
set_option linter.unusedVariables false
set_option linter.unusedSimpArgs false
set_option maxRecDepth 100000

/-- Behind number n each waits for all that stand before it. -/
def tailB (md : Region.Mode) (l : List Oper) (n : Nat) : Bool := (List.range l.length).all fun k => decide (k < n) || (List.range k).all fun i => (clo md l k (match l[k]? with | some o => waits md o | none => [])).contains i

def firstB (n m : Nat) : Array Bool := (Array.range m).map fun i => decide (i < n)
def isFirst (n : Nat) (listed : Array Bool) : Prop := ∀ i, i < listed.size → listed[i]? = some (decide (i < n))

theorem count_set : ∀ (m : List Bool) (i : Nat) (h : i < m.length), m[i] = false → ((m.set i true).filter (! ·)).length + 1 = (m.filter (! ·)).length := by
  intro m
  induction m with
  | nil => intro i h; simp at h
  | cons b m ih2 =>
    intro i h hb
    cases i with
    | zero => simp at hb; subst hb; simp
    | succ i =>
      have := ih2 i (by simpa using h) (by simpa using hb)
      simp only [List.set_cons_succ, List.filter_cons]
      split <;> simp [this]

theorem ready_first {md : Region.Mode} {all : List Oper} {n k : Nat} {listed : Array Bool} (hT : topoB md all = true) (hW : tailB md all n = true) (hn : n ≤ k) (hs : listed.size = all.length) (hl : isFirst k listed) : ∀ i ∈ Region.ready md all.toArray listed, i = k := by
  intro i hi
  obtain ⟨h1, o, ho, h2⟩ := mem_ready.1 hi
  have ho' : all[i]? = some o := by simpa using ho
  have hil : i < all.length := (List.getElem?_eq_some_iff.1 ho').1
  have hik : ¬ i < k := fun h => by
    have := hl i (by omega)
    rw [Array.getD_eq_getD_getElem?, this] at h1
    simp [h] at h1
  by_cases he : i = k
  · exact he
  · exfalso
    simp only [tailB, List.all_eq_true, List.mem_range, Bool.or_eq_true, decide_eq_true_eq] at hW
    rcases hW i hil with h3 | h3
    · omega
    · have h4 := h3 k (by omega)
      rw [ho'] at h4
      simp only [List.contains_eq_mem, decide_eq_true_eq] at h4
      have hdc : ∀ (j : Nat) (p : Oper), all[j]? = some p → listed[j]? = some true → ∀ q ∈ waits md p, listed[q]? = some true := fun j p hp hj q hq => by
        have hjl : j < all.length := (List.getElem?_eq_some_iff.1 hp).1
        have hjk : j < k := by
          have := hl j (by omega)
          rw [hj] at this
          simpa using this.symm
        simp only [topoB, List.all_eq_true, List.mem_range] at hT
        have h5 := hT j hjl
        rw [hp] at h5
        simp only [List.all_eq_true, decide_eq_true_eq] at h5
        have h6 := h5 q hq
        rw [hl q (by omega)]
        simp; omega
      have hwz : ∀ q ∈ waits md o, listed[q]? = some true := fun q hq => by
        simp only [waits, List.mem_map, List.mem_filter] at hq
        obtain ⟨e, ⟨he, hb⟩, rfl⟩ := hq
        have h6 := h2 e (by simpa using he) hb
        rw [Array.getD_eq_getD_getElem?] at h6
        cases h7 : listed[e.on]? with
        | none => rw [h7] at h6; cases h6
        | some b => rw [h7] at h6; simp at h6; rw [h6]
      have := clo_of (p := fun j => listed[j]? = some true) hdc _ _ hwz k h4
      rw [hl k (by omega)] at this
      simp at this

theorem wpAny_tail {P : Program} {md : Region.Mode} {all : List Oper} {Q : Exit → Act → World → Prop} {n : Nat} (hT : topoB md all = true) (hW : tailB md all n = true) :
    ∀ (zs : List Oper) (k f : Nat) (listed : Array Bool) (a : Act) (w : World), n ≤ k → all.drop k = zs → listed.size = all.length → isFirst k listed → (listed.toList.filter (! ·)).length ≤ f → wpList P all.toArray Q zs a w → wpAny P md all.toArray Q f listed a w := by
  intro zs
  induction zs with
  | nil =>
    intro k f listed a w hn hz hs hl hc h
    have hk : all.length ≤ k := by simpa using hz
    refine wpAny_done ?_ h f
    rw [List.eq_nil_iff_forall_not_mem]
    intro i hi
    have := ready_first hT hW hn hs hl i hi
    obtain ⟨_, o, ho, _⟩ := mem_ready.1 hi
    have : i < all.length := by have := (Array.getElem?_eq_some_iff.1 ho).1; simpa using this
    omega
  | cons z zs ih =>
    intro k f listed a w hn hz hs hl hc h
    have hk : k < all.length := by
      have : (all.drop k).length = zs.length + 1 := by rw [hz]; rfl
      simp at this; omega
    have hzk : all[k]? = some z := by
      have : (all.drop k)[0]? = some z := by rw [hz]; rfl
      simpa using this
    have hz' : all.drop (k + 1) = zs := by rw [← List.drop_drop, hz]; rfl
    have hlk : listed[k]? = some false := by rw [hl k (by omega)]; simp
    have hltk : k < listed.size := by omega
    have hfk : listed[k] = false := by
      have := hlk; rw [Array.getElem?_eq_getElem hltk] at this; simpa using this
    cases f with
    | zero =>
      exfalso
      have : false ∈ listed.toList.filter (! ·) := by
        rw [List.mem_filter]
        refine ⟨?_, rfl⟩
        rw [← hfk]; simp
      rw [List.length_eq_zero_iff.1 (Nat.le_zero.1 hc)] at this
      cases this
    | succ f =>
      have hne : Region.ready md all.toArray listed ≠ [] := fun hr => by
        have : k ∈ Region.ready md all.toArray listed := by
          refine mem_ready.2 ⟨by rw [Array.getD_eq_getD_getElem?, hlk]; rfl, z, by simpa using hzk, fun e he hbd => ?_⟩
          simp only [topoB, List.all_eq_true, List.mem_range] at hT
          have h1 := hT k hk
          rw [hzk] at h1
          simp only [List.all_eq_true, decide_eq_true_eq] at h1
          have h2 := h1 e.on (by simp only [waits, List.mem_map, List.mem_filter]; exact ⟨e, ⟨by simpa using he, hbd⟩, rfl⟩)
          rw [Array.getD_eq_getD_getElem?, hl e.on (by omega)]
          simp [h2]
        rw [hr] at this; cases this
      refine ⟨fun hr => absurd hr hne, fun i hi => ?_⟩
      have := ready_first hT hW hn hs hl i hi
      subst this
      have hstep : ∀ a' w', wpList P all.toArray Q zs a' w' → wpAny P md all.toArray Q f (listed.setIfInBounds i true) a' w' := fun a' w' hh => by
        refine ih (i + 1) f _ a' w' (by omega) hz' (by simp [hs]) (fun j hj => ?_) ?_ hh
        · rw [Array.size_setIfInBounds] at hj
          rw [Array.getElem?_setIfInBounds]
          by_cases e : i = j
          · subst e; rw [if_pos rfl, if_pos hj]; simp
          · rw [if_neg e, hl j hj]
            congr 1
            by_cases h3 : j < i
            · simp [h3]; omega
            · simp [h3]; omega
        · have := count_set listed.toList i (by simpa using hltk) (by simpa using hfk)
          simp only [Array.toList_setIfInBounds]
          omega
      refine wpOp_mono hstep ?_
      unfold wpOp
      rw [show all.toArray[i]? = some z by simpa using hzk]
      exact h

def parStepsT (P : Program) (md : Region.Mode) (all l : List Oper) (Q : Exit → Act → World → Prop) (L : List Nat) (V : Nat → World → Value → Prop) (t : Array Value) (df : List Deferred) (w : World) : List Oper → Nat → Prop
  | [], _ => True
  | o :: r, i => (∀ (x : Nat → Value) (w' : World), Fr L w w' → holds V w' x (waits md o) → ∀ K : Act → World → Prop, Shut (∀ v w'', Fr L w' w'' → V i w'' v → K (({ tmps := fill l 0 x t, defers := df } : Act).put o.dst v) w'') →
      if Region.wanted o (yielded all.toArray ({ tmps := fill l 0 x t, defers := df } : Act).tmps) = true then o.wp P { tmps := fill l 0 x t, defers := df } w' K Q else K (({ tmps := fill l 0 x t, defers := df } : Act).put o.dst undef) w') ∧
    parStepsT P md all l Q L V t df w r (i + 1)

theorem parStepsT_at {P : Program} {md : Region.Mode} {all l : List Oper} {Q : Exit → Act → World → Prop} {L : List Nat} {V : Nat → World → Value → Prop} {t : Array Value} {df : List Deferred} {w : World} :
    ∀ {r : List Oper} {k : Nat}, parStepsT P md all l Q L V t df w r k → ∀ {i : Nat} {o : Oper}, r[i]? = some o →
      ∀ (x : Nat → Value) (w' : World), Fr L w w' → holds V w' x (waits md o) → ∀ K : Act → World → Prop, (∀ v w'', Fr L w' w'' → V (k + i) w'' v → K (({ tmps := fill l 0 x t, defers := df } : Act).put o.dst v) w'') →
      if Region.wanted o (yielded all.toArray ({ tmps := fill l 0 x t, defers := df } : Act).tmps) = true then o.wp P { tmps := fill l 0 x t, defers := df } w' K Q else K (({ tmps := fill l 0 x t, defers := df } : Act).put o.dst undef) w'
  | [], _, _, _, _, h => by simp at h
  | o :: r, k, hh, 0, p, h => by simp at h; subst h; exact hh.1
  | o :: r, k, hh, i + 1, p, h => by
    have := parStepsT_at hh.2 (i := i) (by simpa using h)
    rw [show k + (i + 1) = k + 1 + i by omega]; exact this

theorem wpAny_parT {P : Program} {md : Region.Mode} {l zs : List Oper} {Q : Exit → Act → World → Prop} {L : List Nat} {V : Nat → World → Value → Prop} {t : Array Value} {df : List Deferred} {w : World}
    (hA : apartB l = true) (hT : topoB md (l ++ zs) = true) (hW : tailB md (l ++ zs) l.length = true) (hV : ∀ i w w' v, i < l.length → Fr L w w' → V i w v → V i w' v) (hS : parStepsT P md (l ++ zs) l Q L V t df w l 0)
    (hD : ∀ x w', Fr L w w' → holds V w' x (List.range l.length) → wpList P (l ++ zs).toArray Q zs { tmps := fill l 0 x t, defers := df } w') :
    ∀ (f : Nat) (listed : Array Bool) (x : Nat → Value) (w' : World), listed.size = (l ++ zs).length → (∀ i, l.length ≤ i → i < (l ++ zs).length → listed[i]? = some false) → (∀ (j : Nat) (o : Oper), (l ++ zs)[j]? = some o → listed[j]? = some true → ∀ i ∈ waits md o, listed[i]? = some true) → (listed.toList.filter (! ·)).length ≤ f → Fr L w w' → (∀ i, i < l.length → listed[i]? = some true → V i w' (x i)) →
      wpAny P md (l ++ zs).toArray Q f listed { tmps := fill l 0 x t, defers := df } w' := by
  intro f
  induction f with
  | zero =>
    intro listed x w' hn hlast hdc hc hf hv
    have hfa : ∀ i, i < listed.size → listed[i]? = some true := fun i hi => by
      cases hb : listed[i] with
      | true => rw [Array.getElem?_eq_getElem hi, hb]
      | false =>
        exfalso
        have : false ∈ listed.toList.filter (! ·) := by
          rw [List.mem_filter]
          exact ⟨by rw [← hb]; simp, rfl⟩
        rw [List.length_eq_zero_iff.1 (Nat.le_zero.1 hc)] at this
        cases this
    have hzn : zs = [] := by
      cases zs with
      | nil => rfl
      | cons z zs =>
        exfalso
        have h1 := hlast l.length (Nat.le_refl _) (by simp)
        rw [hfa l.length (by simp at hn; omega)] at h1
        cases h1
    refine wpAny_tail hT hW zs l.length 0 listed _ w' (Nat.le_refl _) (by simp) hn (fun i hi => ?_) hc (hD x w' hf (holds_of fun j hj => hv j (List.mem_range.1 hj) (hfa j (by simp at hn hj; omega))))
    rw [hfa i hi]
    subst hzn
    simp at hn
    simp; omega
  | succ f ih =>
    intro listed x w' hn hlast hdc hc hf hv
    by_cases hall : ∀ j, j < l.length → listed[j]? = some true
    · refine wpAny_tail hT hW zs l.length (f + 1) listed _ w' (Nat.le_refl _) (by simp) hn (fun i hi => ?_) hc (hD x w' hf (holds_of fun j hj => hv j (List.mem_range.1 hj) (hall j (List.mem_range.1 hj))))
      by_cases h : i < l.length
      · rw [hall i h]; simp [h]
      · rw [hlast i (by omega) (by omega)]; simp [h]
    · have key : ∀ i ∈ Region.ready md (l ++ zs).toArray listed, i < l.length := fun i hi => by
        obtain ⟨h1, o, ho, h2⟩ := mem_ready.1 hi
        have ho' : (l ++ zs)[i]? = some o := by simpa using ho
        have hil : i < (l ++ zs).length := (List.getElem?_eq_some_iff.1 ho').1
        by_cases hc2 : i < l.length
        · exact hc2
        · exfalso
          apply hall
          intro j hj
          simp only [tailB, List.all_eq_true, List.mem_range, Bool.or_eq_true, decide_eq_true_eq] at hW
          rcases hW i hil with h3 | h3
          · exact absurd h3 hc2
          · have h4 := h3 j (by omega)
            rw [ho'] at h4
            simp only [List.contains_eq_mem, decide_eq_true_eq] at h4
            refine clo_of (p := fun j => listed[j]? = some true) hdc _ _ (fun q hq => ?_) j h4
            simp only [waits, List.mem_map, List.mem_filter] at hq
            obtain ⟨e, ⟨he, hb⟩, rfl⟩ := hq
            have h6 := h2 e (by simpa using he) hb
            rw [Array.getD_eq_getD_getElem?] at h6
            cases h7 : listed[e.on]? with
            | none => rw [h7] at h6; cases h6
            | some b => rw [h7] at h6; simp at h6; rw [h6]
      refine ⟨fun hr => ?_, fun i hi => ?_⟩
      · exfalso
        apply hall
        have all : ∀ n i, i < n → i < l.length → listed[i]? = some true := by
          intro n
          induction n with
          | zero => intro i hi; omega
          | succ n ih2 =>
            intro i hi hil
            by_cases hb : listed[i]? = some true
            · exact hb
            · exfalso
              have hlt : i < listed.size := by simp at hn; omega
              have hb' : listed[i]? = some false := by
                rw [Array.getElem?_eq_getElem hlt] at hb ⊢
                cases hx : listed[i] with
                | false => rfl
                | true => rw [hx] at hb; exact absurd rfl hb
              have hil' : i < (l ++ zs).length := by simp; omega
              have : i ∈ Region.ready md (l ++ zs).toArray listed := by
                refine mem_ready.2 ⟨by simp [Array.getD_eq_getD_getElem?, hb'], (l ++ zs)[i], by rw [List.getElem?_toArray, List.getElem?_eq_getElem hil'], fun e he hbd => ?_⟩
                simp only [topoB, List.all_eq_true, List.mem_range] at hT
                have h1 := hT i hil'
                rw [List.getElem?_eq_getElem hil'] at h1
                simp only [List.all_eq_true, decide_eq_true_eq] at h1
                have h2 := h1 e.on (by simp only [waits, List.mem_map, List.mem_filter]; exact ⟨e, ⟨by simpa using he, hbd⟩, rfl⟩)
                have h3 := ih2 e.on (by omega) (by omega)
                simp [Array.getD_eq_getD_getElem?, h3]
              rw [hr] at this
              cases this
        exact fun j hj => all (j + 1) j (by omega) hj
      · have hil := key i hi
        obtain ⟨h1, o, ho, h2⟩ := mem_ready.1 hi
        have ho' : (l ++ zs)[i]? = some o := by simpa using ho
        have hol : l[i]? = some o := by rwa [List.getElem?_append_left hil] at ho'
        have hlt : i < listed.size := by simp at hn; omega
        have h5 : listed[i] = false := by
          simpa [Array.getD_eq_getD_getElem?, Array.getElem?_eq_getElem hlt] using h1
        have hwz : ∀ q ∈ waits md o, listed[q]? = some true := fun q hq => by
          simp only [waits, List.mem_map, List.mem_filter] at hq
          obtain ⟨e, ⟨he, hb⟩, rfl⟩ := hq
          have h6 := h2 e (by simpa using he) hb
          rw [Array.getD_eq_getD_getElem?] at h6
          cases h7 : listed[e.on]? with
          | none => rw [h7] at h6; cases h6
          | some b => rw [h7] at h6; simp at h6; rw [h6]
        have hlow : ∀ q ∈ waits md o, q < l.length := fun q hq => by
          simp only [topoB, List.all_eq_true, List.mem_range] at hT
          have g1 := hT i (by simp; omega)
          rw [ho'] at g1
          simp only [List.all_eq_true, decide_eq_true_eq] at g1
          have := g1 q hq
          omega
        have hst := parStepsT_at hS hol x w' hf (holds_of fun j hj => hv _ (hlow j hj) (hwz j hj))
        refine wpOp_step ho fun K' hK => hst K' fun v w'' hf2 hv2 => ?_
        rw [fill_put hA hol]
        have keepk : ∀ k, listed[k]? = some true → (listed.setIfInBounds i true)[k]? = some true := fun k h => by
          rw [Array.getElem?_setIfInBounds]
          by_cases e : i = k
          · rw [if_pos e, if_pos (e ▸ hlt)]
          · rw [if_neg e]; exact h
        refine hK _ _ (ih _ _ _ (by simpa using hn) (fun j hj hj2 => ?_) (fun j p hp hj k hk => ?_) ?_ (hf.tr hf2) fun j hjl hj => ?_)
        · rw [Array.getElem?_setIfInBounds, if_neg (by omega)]; exact hlast j hj hj2
        · by_cases e : i = j
          · subst e
            rw [ho'] at hp
            cases hp
            exact keepk k (hwz k hk)
          · rw [Array.getElem?_setIfInBounds, if_neg e] at hj
            exact keepk k (hdc j p hp hj k hk)
        · have := count_set listed.toList i (by simpa using hlt) (by simpa using h5)
          simp only [Array.toList_setIfInBounds]
          omega
        · by_cases e : i = j
          · subst e; simp only [upd, if_true]; simpa using hv2
          · rw [Array.getElem?_setIfInBounds, if_neg e] at hj
            simp only [upd, if_neg (Ne.symm e)]
            exact hV j _ _ _ hjl hf2 (hv j hjl hj)

theorem holdsA_ofT {V : Nat → World → Value → Prop} {w : World} {x : Nat → Value} {l zs : List Oper} {t : Array Value} {df : List Deferred} (hA : apartB l = true) (hsz : (l.all fun o => match o.dst with | some d => decide (d < t.size) | none => true) = true) :
    ∀ {m : List Nat}, (∀ i ∈ m, i < l.length) → holds V w x m → holdsA V w { tmps := fill l 0 x t, defers := df } (l ++ zs) m
  | [], _, _ => trivial
  | i :: r, hm, h => by
    refine ⟨?_, holdsA_ofT hA hsz (fun j hj => hm j (by simp [hj])) h.2⟩
    have hil := hm i (by simp)
    rw [List.getElem?_append_left hil]
    cases ho : l[i]? with
    | none => trivial
    | some o =>
      cases hd : o.dst with
      | none => simp only [Option.bind_some, hd]
      | some d =>
        simp only [Option.bind_some, hd]
        have hs : d < t.size := by
          simp only [List.all_eq_true] at hsz
          have := hsz o (List.mem_of_getElem? ho)
          rw [hd] at this
          simpa using this
        have := fill_at l 0 x t i o d ho hd (fun i' o' h1 h2 => apart_of hA ho h1 hd h2) hs
        rw [Array.getD_eq_getD_getElem?, this]
        simpa using h.1

theorem parStepsT_of {P : Program} {md : Region.Mode} {l zs : List Oper} {Q : Exit → Act → World → Prop} {L : List Nat} {V : Nat → World → Value → Prop} {t : Array Value} {df : List Deferred} {w : World} (hA : apartB l = true) (hT : topoB md (l ++ zs) = true) (hsz : (l.all fun o => match o.dst with | some d => decide (d < t.size) | none => true) = true) :
    ∀ {r : List Oper} {k : Nat}, l.drop k = r → parStepsA P md (l ++ zs) Q L V t w r k → parStepsT P md (l ++ zs) l Q L V t df w r k
  | [], _, _, _ => trivial
  | o :: r, k, hr, h => by
    have hk : l[k]? = some o := by
      have : (l.drop k)[0]? = some o := by rw [hr]; rfl
      simpa using this
    have hkl : k < l.length := (List.getElem?_eq_some_iff.1 hk).1
    refine ⟨fun x w' hf hp K hK => h.1 _ w' hf (fun j hj => by
      rw [Array.getD_eq_getD_getElem?, Array.getD_eq_getD_getElem?, fill_keep l 0 x t j (fun i o' ho' he => by
        simp only [List.all_eq_true, bne_iff_ne, ne_eq] at hj
        exact hj o' (List.mem_append_left _ (List.mem_of_getElem? ho')) he)]) (holdsA_ofT hA hsz (fun i hi => ?_) hp) K hK, parStepsT_of hA hT hsz (by rw [← List.drop_drop, hr]; rfl) h.2⟩
    simp only [topoB, List.all_eq_true, List.mem_range] at hT
    have g1 := hT k (by simp; omega)
    rw [List.getElem?_append_left hkl, hk] at g1
    simp only [List.all_eq_true, decide_eq_true_eq] at g1
    have := g1 i hi
    omega

/-- **Operations in any order, then a row of operations each of which comes alone.** -/
theorem wp_region_keepsT {P : Program} {id : Nat} {Q : Exit → Act → World → Prop} {t : Array Value} {df : List Deferred} {w : World} {all : List Oper} (L : List Nat) (Vs : List (World → Value → Prop)) (n : Nat) (hn : decide (n ≤ all.length) = true) (hm : P.follows .mixedOrders = true)
    (hA : apartB (all.take n) = true) (hT : topoB .any all = true) (hsz : ((all.take n).all fun o => match o.dst with | some d => decide (d < t.size) | none => true) = true) (hW : tailB .any all n = true) (hV : KeepsAll L Vs) (hS : parStepsA P .any all Q L (nth Vs) t w (all.take n) 0)
    (hD : ∀ x w', Fr L w w' → holds (nth Vs) w' x (List.range n) → wpList P all.toArray Q (all.drop n) { tmps := fill (all.take n) 0 x t, defers := df } w') :
    (Code.region id all.toArray true).wp P Q { tmps := t, defers := df } w := by
  have e : all = all.take n ++ all.drop n := (List.take_append_drop n all).symm
  have hl : (all.take n).length = n := by simp at hn ⊢; omega
  refine wp_region_any hm ?_
  generalize hlz : all.take n = l at *
  generalize all.drop n = zs at *
  subst e
  subst hl
  have hS' := parStepsT_of (df := df) hA hT hsz (k := 0) (by simp) hS
  have h := wpAny_parT (V := nth Vs) hA hT hW (fun i _ _ _ _ hf h => hV.nth i _ _ _ hf h) hS' hD (l ++ zs).toArray.size (Array.replicate (l ++ zs).toArray.size false) (fun i => ((l[i]?).bind (·.dst)).elim undef fun d => t.getD d undef) { w with drawn := w.drawn + 1 } (by simp) (fun i _ hi => by simp at hi; simp [Array.getElem?_replicate, hi]) (fun j o _ hj => by rw [Array.getElem?_replicate] at hj; split at hj <;> cases hj)
    (by simp) ((Fr.refl L w).drewN 1) (fun i _ hi => by rw [Array.getElem?_replicate] at hi; split at hi <;> cases hi)
  rw [fill_id] at h
  · exact h
  · intro i o d ho hd
    rw [Nat.zero_add, ho]
    simp [hd]
end Go.Proofs.YtneggoonlmmjeaaGreat
namespace Go.Proofs.YtneggoonlmmjeaaGreat
open Go.RowKit Go.ChangeShapes Go.WideShapes Go.Deep
set_option linter.unusedVariables false
set_option linter.unusedSimpArgs false
set_option maxRecDepth 100000

/-- A slice argument that reads as these whole numbers. -/
def ArgInts (k : IntKind) (w : World) (A : Option Addr) (l : List Int) : Prop :=
  (∀ n ∈ l, (Lit.int k n).wf = true) ∧ (l = [] ∨ ∃ b off, A = some ⟨b, off, none⟩ ∧ ∀ i (h : i < l.length), w.cell? ⟨b, off + i, none⟩ = some (.int k l[i]))

theorem ArgInts.nil (k : IntKind) (w : World) (A : Option Addr) : ArgInts k w A [] := ⟨by simp, .inl rfl⟩

theorem ArgInts.of {k : IntKind} {w : World} {a : Addr} {zs : List Int} (n : Nat) (hn : n ≤ zs.length) (hc : ∀ i, i < zs.length → w.cell? (a.add i) = some (.int k (zs.getD i 0))) (hw : ∀ x ∈ zs, (Lit.int k x).wf = true) :
    ArgInts k w (some a) (zs.take n) := by
  refine ⟨fun x hx => hw x (List.mem_of_mem_take hx), ?_⟩
  by_cases h0 : 0 < zs.length
  · obtain ⟨b, off, rfl, h⟩ := ints_at hc h0
    refine .inr ⟨b, off, rfl, fun i hi => ?_⟩
    have hi' : i < zs.length := by simp at hi; omega
    rw [h i hi']
    simp [List.getElem_take, hi']
  · left
    have : zs = [] := List.length_eq_zero_iff.1 (by omega)
    simp [this]

theorem ArgInts.fr {k : IntKind} {w w' : World} {A : Option Addr} {l : List Int} (h : ArgInts k w A l) (f : Fr [] w w') : ArgInts k w' A l := by
  refine ⟨h.1, ?_⟩
  rcases h.2 with h0 | ⟨b, off, rfl, hc⟩
  · exact .inl h0
  · exact .inr ⟨b, off, rfl, fun i hi => f.cell (hc i hi) (by simp)⟩

theorem ArgInts.open_ {H : Type} {enc : TypeId × Value → H} {P : Program} {w : World} {base : Nat} {spare : Nat → Bool} {held : Bool} {t e : TypeId} {k : IntKind} {A : Option Addr} {len cap : Nat} {d : DataW H} {p : List MemPlace}
    (ht : P.underlying t = some (.slice e)) (he : P.underlying e = some (.int k)) (hc : P.cellsOf e = 1) (h : DataW.Trod enc P w base spare held t (.slice A len cap) d p) :
    ∃ l : List Int, l.length = len ∧ len ≤ 9223372036854775807 ∧ ArgInts k w A l := by
  obtain ⟨fuel, hf⟩ := h
  rcases open_ints ht he hc hf with ⟨hcs, _⟩ | ⟨x, l, c, zs, hcs, _, hl, hm, hz, _, hcell, hwz⟩
  · simp [Value.cells] at hcs
    obtain ⟨rfl, rfl, rfl⟩ := hcs
    exact ⟨[], rfl, by omega, ArgInts.nil _ _ _⟩
  · simp [Value.cells] at hcs
    obtain ⟨rfl, rfl, rfl⟩ := hcs
    unfold maxLen at hm
    have hle : len ≤ zs.length := by rw [hz]; split <;> omega
    exact ⟨zs.take len, by simp; omega, by omega, ArgInts.of len hle hcell hwz⟩

/-- A slice argument of records of whole numbers: field j of record i is g i j. -/
def ArgRec (ks : List IntKind) (w : World) (A : Option Addr) (n : Nat) (g : Nat → Nat → Int) : Prop :=
  n = 0 ∨ ∃ b off, A = some ⟨b, off, none⟩ ∧ ∀ i, i < n → ∀ j (h : j < ks.length), w.cell? ⟨b, off + i * ks.length + j, none⟩ = some (.int ks[j] (g i j)) ∧ (Lit.int ks[j] (g i j)).wf = true

theorem ArgRec.fr {ks : List IntKind} {w w' : World} {A : Option Addr} {n : Nat} {g : Nat → Nat → Int} (h : ArgRec ks w A n g) (f : Fr [] w w') : ArgRec ks w' A n g := by
  rcases h with h0 | ⟨b, off, rfl, hc⟩
  · exact .inl h0
  · exact .inr ⟨b, off, rfl, fun i hi j hj => ⟨f.cell (hc i hi j hj).1 (by simp), (hc i hi j hj).2⟩⟩

theorem ArgRec.open_ {H : Type} {enc : TypeId × Value → H} {P : Program} {w : World} {base : Nat} {spare : Nat → Bool} {held : Bool} {t e : TypeId} {ks : List IntKind} {fs : Array Field} {A : Option Addr} {len cap : Nat} {d : DataW H} {p : List MemPlace}
    (ht : P.underlying t = some (.slice e)) (he : P.underlying e = some (.struct fs)) (hC : P.cellsOf e = ks.length) (hk0 : 0 < ks.length)
    (hfs : ∀ j (hj : j < ks.length), ∃ f, fs[j]? = some f ∧ f.offset = j ∧ P.cellsOf f.type = 1 ∧ P.underlying f.type = some (.int ks[j]))
    (h : DataW.Trod enc P w base spare held t (.slice A len cap) d p) :
    len ≤ 9223372036854775807 ∧ ∃ g, ArgRec ks w A len g := by
  obtain ⟨fuel, hf⟩ := h
  rcases open_slice ht hf with ⟨hcs, _⟩ | ⟨a, l, c, m, n, D, Pl, hcs, hb, hl, hm, hmm, _, hi⟩
  · simp [Value.cells] at hcs
    obtain ⟨rfl, rfl, rfl⟩ := hcs
    exact ⟨by omega, fun _ _ => 0, .inl rfl⟩
  · simp [Value.cells] at hcs
    obtain ⟨rfl, rfl, rfl⟩ := hcs
    unfold maxLen at hm
    refine ⟨by omega, ?_⟩
    have hlm : len ≤ m := by rw [hmm]; split <;> omega
    have key : ∀ i j, ∃ x : Int, i < len → ∀ hj : j < ks.length, w.cell? (a.add (i * ks.length + j)) = some (.int ks[j] x) ∧ (Lit.int ks[j] x).wf = true := by
      intro i j
      by_cases hh : i < len ∧ j < ks.length
      · obtain ⟨hil, hj⟩ := hh
        obtain ⟨cs', hc, ht'⟩ := hi i (by omega)
        rw [hC] at hc
        obtain ⟨xs, n', _, _, hcl, hxl, hfld⟩ := DataW.trod_struct he ht'
        obtain ⟨_, hlen, hat⟩ := World.cells?_some hc
        obtain ⟨f, hfj, ho, hc1, hu⟩ := hfs j hj
        have h1 := hfld j f hfj
        rw [ho, hc1] at h1
        have hone : (cs'.drop j).take 1 = [cs'[j]'(by omega)] := by rw [List.drop_eq_getElem_cons (by omega)]; rfl
        rw [hone] at h1
        have hjx : j < xs.length := by rw [hxl]; exact (Array.getElem?_eq_some_iff.1 hfj).1
        rw [List.getElem?_eq_getElem hjx] at h1
        obtain ⟨x, hx, _, hw⟩ := DataW.trod_int hu h1
        refine ⟨x, fun _ hj' => ⟨?_, hw⟩⟩
        have := hat j hj
        rw [List.getElem?_eq_getElem (by omega)] at this
        rw [← Go.Deep.add_add, this]
        simpa using hx
      · exact ⟨0, fun h1 h2 => absurd ⟨h1, h2⟩ hh⟩
    obtain ⟨g, hg⟩ : ∃ g : Nat → Nat → Int, ∀ i j, i < len → ∀ hj : j < ks.length, w.cell? (a.add (i * ks.length + j)) = some (.int ks[j] (g i j)) ∧ (Lit.int ks[j] (g i j)).wf = true :=
      ⟨fun i j => Classical.choose (key i j), fun i j => Classical.choose_spec (key i j)⟩
    refine ⟨g, ?_⟩
    by_cases h0 : len = 0
    · exact .inl h0
    · right
      obtain ⟨b, off, spot⟩ := a
      have hspot : spot = none := by simpa [Addr.add] using World.cell?_spot (hg 0 0 (by omega) hk0).1
      subst hspot
      refine ⟨b, off, rfl, fun i hi j hj => ?_⟩
      obtain ⟨h1, h2⟩ := hg i j hi hj
      rw [Go.WideShapes.add_plain] at h1
      exact ⟨by rw [← h1, Nat.add_assoc], h2⟩
theorem wf_u8 {x : Int} (h : (Lit.int .u8 x).wf = true) : 0 ≤ x ∧ x ≤ 255 := by
  simp only [Lit.wf, IntKind.min, IntKind.max, IntKind.signed, IntKind.bits, Bool.and_eq_true, decide_eq_true_eq] at h
  simpa using h
theorem wf_u16 {x : Int} (h : (Lit.int .u16 x).wf = true) : 0 ≤ x ∧ x ≤ 65535 := by
  simp only [Lit.wf, IntKind.min, IntKind.max, IntKind.signed, IntKind.bits, Bool.and_eq_true, decide_eq_true_eq] at h
  simpa using h
theorem wf_i16 {x : Int} (h : (Lit.int .i16 x).wf = true) : -32768 ≤ x ∧ x ≤ 32767 := by
  simp only [Lit.wf, IntKind.min, IntKind.max, IntKind.signed, IntKind.bits, Bool.and_eq_true, decide_eq_true_eq, if_true] at h
  omega
theorem wf_i64 {x : Int} (h : (Lit.int .i64 x).wf = true) : -9223372036854775808 ≤ x ∧ x ≤ 9223372036854775807 := by
  simp only [Lit.wf, IntKind.min, IntKind.max, IntKind.signed, IntKind.bits, Bool.and_eq_true, decide_eq_true_eq, if_true] at h
  omega

theorem ArgInts.at_ {k : IntKind} {w : World} {A : Option Addr} {l : List Int} (h : ArgInts k w A l) (i : Nat) (hi : i < l.length) :
    ∃ b off x, A = some ⟨b, off, none⟩ ∧ w.cell? ⟨b, off + i, none⟩ = some (.int k x) ∧ (Lit.int k x).wf = true ∧ x = l[i] := by
  rcases h.2 with h0 | ⟨b, off, rfl, hc⟩
  · subst h0; simp at hi
  · exact ⟨b, off, _, rfl, hc i hi, h.1 _ (List.getElem_mem hi), rfl⟩

theorem ArgRec.at_ {ks : List IntKind} {w : World} {A : Option Addr} {n : Nat} {g : Nat → Nat → Int} (h : ArgRec ks w A n g) (i : Nat) (hi : i < n) :
    ∃ b off, A = some ⟨b, off, none⟩ ∧ ∀ j (h : j < ks.length), w.cell? ⟨b, off + i * ks.length + j, none⟩ = some (.int ks[j] (g i j)) ∧ (Lit.int ks[j] (g i j)).wf = true := by
  rcases h with h0 | ⟨b, off, rfl, hc⟩
  · omega
  · exact ⟨b, off, rfl, hc i hi⟩

/-- A struct argument by value, of whole numbers. -/
theorem agg_open {H : Type} {enc : TypeId × Value → H} {P : Program} {w : World} {base : Nat} {spare : Nat → Bool} {held : Bool} {t : TypeId} {ks : List IntKind} {fs : Array Field} {cs : Array Value} {d : DataW H} {p : List MemPlace}
    (he : P.underlying t = some (.struct fs)) (hC : P.cellsOf t = ks.length)
    (hfs : ∀ j (hj : j < ks.length), ∃ f, fs[j]? = some f ∧ f.offset = j ∧ P.cellsOf f.type = 1 ∧ P.underlying f.type = some (.int ks[j]))
    (h : DataW.Trod enc P w base spare held t (.agg cs) d p) :
    cs.size = ks.length ∧ ∃ g : Nat → Int, ∀ j (hj : j < ks.length), cs[j]? = some (.int ks[j] (g j)) ∧ (Lit.int ks[j] (g j)).wf = true := by
  obtain ⟨fuel, hf⟩ := h
  obtain ⟨xs, n', _, _, hcl, hxl, hfld⟩ := DataW.trod_struct he hf
  have hsz : cs.size = ks.length := by rw [hC] at hcl; simpa [Value.cells] using hcl
  refine ⟨hsz, ?_⟩
  have key : ∀ j, ∃ x : Int, ∀ hj : j < ks.length, cs[j]? = some (.int ks[j] x) ∧ (Lit.int ks[j] x).wf = true := by
    intro j
    by_cases hj : j < ks.length
    · obtain ⟨f, hfj, ho, hc1, hu⟩ := hfs j hj
      have h1 := hfld j f hfj
      rw [ho, hc1] at h1
      have hjc : j < cs.toList.length := by simp; omega
      have hone : ((Value.agg cs).cells.toList.drop j).take 1 = [cs.toList[j]] := by simp only [Value.cells]; rw [List.drop_eq_getElem_cons hjc]; rfl
      rw [hone] at h1
      have hjx : j < xs.length := by rw [hxl]; exact (Array.getElem?_eq_some_iff.1 hfj).1
      rw [List.getElem?_eq_getElem hjx] at h1
      obtain ⟨x, hx, _, hw⟩ := DataW.trod_int hu h1
      refine ⟨x, fun _ => ⟨?_, hw⟩⟩
      rw [Array.getElem?_eq_getElem (by omega)]
      simpa using hx
    · exact ⟨0, fun h => absurd h hj⟩
  exact ⟨fun j => Classical.choose (key j), fun j hj => Classical.choose_spec (key j) hj⟩
end Go.Proofs.YtneggoonlmmjeaaGreat
namespace Go.Proofs.YtneggoonlmmjeaaGreat
open Go.RowKit
set_option linter.unusedVariables false
set_option linter.unusedSimpArgs false
set_option maxRecDepth 100000

theorem Fr.grown {L : List Nat} {a w w' : World} {row : Option Nat} (h : Fr L a w) (g : w.grownBy w' row) (hr : ∀ k, row = some k → k ∈ L ∨ a.heap.size ≤ k) : Fr L a w' :=
  ⟨g.os.trans h.os, g.tape.trans h.tape, g.output.trans h.output, Nat.le_trans h.size g.size, fun k hk hn => by
    rw [g.block k (Nat.lt_of_lt_of_le hk h.size) (fun e => by rcases hr k e.symm with h1 | h1; exact hn h1; omega), h.block k hk hn]⟩

/-- A slice, part by part. -/
structure Sl where
  A : Option Addr
  n : Nat
  c : Nat
abbrev Sl.v (s : Sl) : Value := .slice s.A s.n s.c
def Sl.nil : Sl := ⟨none, 0, 0⟩
/-- A slice whose elements are these whole numbers. -/
def Ints (k : IntKind) (w : World) (v : Value) (l : List Int) : Prop := (v = .slice none 0 0 ∧ l = []) ∨ ∃ A cap, v = .slice (some A) l.length cap ∧ ArgInts k w (some A) l
theorem Ints.fr {k : IntKind} {w w' : World} {v : Value} {l : List Int} (h : Ints k w v l) (f : Fr [] w w') : Ints k w' v l := by
  rcases h with h | ⟨A, cap, e, h⟩
  · exact .inl h
  · exact .inr ⟨A, cap, e, h.fr f⟩
theorem Ints.sl {k : IntKind} {w : World} {v : Value} {l : List Int} (h : Ints k w v l) : ∃ s : Sl, v = .slice s.A s.n s.c := by
  rcases h with ⟨rfl, _⟩ | ⟨A, cap, rfl, _⟩
  · exact ⟨⟨_, _, _⟩, rfl⟩
  · exact ⟨⟨_, _, _⟩, rfl⟩
theorem Ints.nil (k : IntKind) (w : World) : Ints k w (.slice none 0 0) [] := .inl ⟨rfl, rfl⟩
theorem Ints.blk {k : IntKind} {w : World} {b : Nat} {l : List Int} {t : TypeId} (h : Blk w b (l.map (Value.int k)).toArray t) (hw : ∀ x ∈ l, (Lit.int k x).wf = true) : Ints k w (.slice (some ⟨b, 0, none⟩) l.length l.length) l :=
  .inr ⟨_, _, rfl, hw, .inr ⟨b, 0, rfl, fun i hi => h.cell _ (by simp [hi])⟩⟩
theorem Ints.own {k : IntKind} {w : World} {B : Nat} {e : TypeId} {v : Value} {l : List Int} (h : w.ownsRow B e 1 v l.length (l.map (Value.int k))) (hw : ∀ x ∈ l, (Lit.int k x).wf = true) : Ints k w v l := by
  have hc := @World.ownsRow.cells _ _ _ _ _ _ _ h
  rcases h.2 with ⟨rfl, h0⟩ | ⟨g, cap, cur, rfl, _⟩
  · rw [List.length_eq_zero_iff.1 h0]; exact Ints.nil _ _
  · refine .inr ⟨_, _, rfl, hw, .inr ⟨g, 0, rfl, fun i hi => ?_⟩⟩
    have := hc (g := g) rfl i (.int k l[i]) (by simp [hi])
    rwa [Go.WideShapes.add_plain] at this
theorem Ints.frL {k : IntKind} {w w' : World} {v : Value} {l : List Int} {L : List Nat} (h : Ints k w v l) (f : Fr L w w') (hn : ∀ A n c, v = .slice (some A) n c → A.block ∉ L) : Ints k w' v l := by
  rcases h with h | ⟨A, cap, rfl, h1, h2⟩
  · exact .inl h
  · refine .inr ⟨A, cap, rfl, h1, ?_⟩
    rcases h2 with h2 | ⟨b, off, e, hc⟩
    · exact .inl h2
    · cases e
      exact .inr ⟨b, off, rfl, fun i hi => f.cell (hc i hi) (hn ⟨b, off, none⟩ _ _ rfl)⟩
/-- A slice that does not lie below block B. -/
def Young (B : Nat) (v : Value) : Prop := ∀ A n c, v = .slice (some A) n c → B ≤ A.block
theorem Young.nil (B : Nat) : Young B (.slice none 0 0) := fun _ _ _ h => by cases h
theorem Young.mono {B B' : Nat} {v : Value} (h : Young B v) (hb : B' ≤ B) : Young B' v := fun A n c e => Nat.le_trans hb (h A n c e)
theorem Young.own {w : World} {B : Nat} {e : TypeId} {size n : Nat} {v : Value} {xs : List Value} (h : w.ownsRow B e size v n xs) : Young B v := by
  rintro A n' c rfl
  exact (h.lt A.block rfl).1
/-- A slice that does not lie in block b. -/
def Apart (b : Nat) (v : Value) : Prop := ∀ A n c, v = .slice (some A) n c → A.block ≠ b
theorem Young.apart {B b : Nat} {v : Value} (h : Young B v) (hb : b < B) : Apart b v := fun A n c e => by have := h A n c e; omega
theorem Apart.nil (b : Nat) : Apart b (.slice none 0 0) := fun _ _ _ h => by cases h
theorem Apart.not {b : Nat} {v : Value} (h : Apart b v) : ∀ A n c, v = .slice (some A) n c → A.block ∉ [b] := fun A n c e => by simpa using h A n c e
theorem ArgInts.news {k : IntKind} {w : World} {A : Addr} {l : List Int} (h : ArgInts k w (some A) l) : ∀ (j : Nat) u, (l.map (Value.int k))[j]? = some u → w.cell? (A.add j) = some u := by
  intro j u hj
  rcases h.2 with rfl | ⟨b, off, e, hc⟩
  · simp at hj
  · cases e
    have hjl : j < l.length := by
      have := (List.getElem?_eq_some_iff.1 hj).1; simpa using this
    have := hc j hjl
    simp [hjl] at hj
    rw [← hj]
    rwa [Go.WideShapes.add_plain]
theorem ints_one {k : IntKind} {l : List Int} : ∀ u ∈ l.map (Value.int k), u.oneCell' = true := by
  intro u hu; simp at hu; obtain ⟨_, _, rfl⟩ := hu; rfl
end Go.Proofs.YtneggoonlmmjeaaGreat
namespace Go.Proofs.YtneggoonlmmjeaaGreat
open Go.RowKit
set_option linter.unusedVariables false
set_option linter.unusedSimpArgs false
set_option maxRecDepth 100000

/-- Operation j always comes ahead of operation i. -/
def beforeB (md : Region.Mode) (all : List Oper) (i j : Nat) : Bool := match all[i]? with | some o => (clo md all i (waits md o)).contains j | none => false
/-- Who uses a fact up is the last one that waits for it. -/
def deadB (md : Region.Mode) (all : List Oper) (n : Nat) (dead : Nat → Nat → Bool) : Bool := (List.range n).all fun i => (List.range n).all fun j => !dead i j || (List.range n).all fun k => k == j || beforeB md all j k || (match all[k]? with | some o => !(waits md o).contains i | none => true)
theorem dead_of {md : Region.Mode} {all : List Oper} {n : Nat} {dead : Nat → Nat → Bool} (h : deadB md all n dead = true) {i j k : Nat} {o : Oper} (hi : i < n) (hj : j < n) (hd : dead i j = true) (hk : k < n) (ho : all[k]? = some o) (hw : i ∈ waits md o) : k = j ∨ beforeB md all j k = true := by
  simp only [deadB, List.all_eq_true, List.mem_range, Bool.or_eq_true, Bool.not_eq_true', beq_iff_eq] at h
  rcases h i hi j hj with h1 | h1
  · rw [hd] at h1; cases h1
  · rcases h1 k hk with (h2 | h2) | h2
    · exact .inl h2
    · exact .inr h2
    · rw [ho] at h2
      simp only [List.contains_eq_mem, Bool.not_eq_true', decide_eq_false_iff_not] at h2
      exact absurd hw h2
/-- Every operation that does what is bad comes behind this one. -/
def earlyB (md : Region.Mode) (all : List Oper) (n : Nat) (bad : Nat → Bool) (i : Nat) : Bool := (List.range n).all fun k => !bad k || k == i || beforeB md all k i
def live (n : Nat) (dead : Nat → Nat → Bool) : List Nat := (List.range n).filter fun i => (List.range n).all fun j => !dead i j
def parStepsG (F : World → World → Prop) (St : Nat → World → World → Prop) (ea : Nat → Bool) (Bs : World → Prop) (P : Program) (md : Region.Mode) (all l : List Oper) (Q : Exit → Act → World → Prop) (V : Nat → World → Value → Prop) (t : Array Value) (df : List Deferred) (w : World) : List Oper → Nat → Prop
  | [], _ => True
  | o :: r, i => (∀ (x : Nat → Value) (w' : World), F w w' → (ea i = true → Bs w') → holds V w' x (waits md o) → ∀ K : Act → World → Prop, Shut (∀ v w'', St i w' w'' → V i w'' v → K (({ tmps := fill l 0 x t, defers := df } : Act).put o.dst v) w'') →
      if Region.wanted o (yielded all.toArray ({ tmps := fill l 0 x t, defers := df } : Act).tmps) = true then o.wp P { tmps := fill l 0 x t, defers := df } w' K Q else K (({ tmps := fill l 0 x t, defers := df } : Act).put o.dst undef) w') ∧
    parStepsG F St ea Bs P md all l Q V t df w r (i + 1)

theorem parStepsG_at {F : World → World → Prop} {St : Nat → World → World → Prop} {ea : Nat → Bool} {Bs : World → Prop} {P : Program} {md : Region.Mode} {all l : List Oper} {Q : Exit → Act → World → Prop} {V : Nat → World → Value → Prop} {t : Array Value} {df : List Deferred} {w : World} :
    ∀ {r : List Oper} {k : Nat}, parStepsG F St ea Bs P md all l Q V t df w r k → ∀ {i : Nat} {o : Oper}, r[i]? = some o →
      ∀ (x : Nat → Value) (w' : World), F w w' → (ea (k + i) = true → Bs w') → holds V w' x (waits md o) → ∀ K : Act → World → Prop, (∀ v w'', St (k + i) w' w'' → V (k + i) w'' v → K (({ tmps := fill l 0 x t, defers := df } : Act).put o.dst v) w'') →
      if Region.wanted o (yielded all.toArray ({ tmps := fill l 0 x t, defers := df } : Act).tmps) = true then o.wp P { tmps := fill l 0 x t, defers := df } w' K Q else K (({ tmps := fill l 0 x t, defers := df } : Act).put o.dst undef) w'
  | [], _, _, _, _, h => by simp at h
  | o :: r, k, hh, 0, p, h => by simp at h; subst h; exact hh.1
  | o :: r, k, hh, i + 1, p, h => by
    have := parStepsG_at hh.2 (i := i) (by simpa using h)
    rw [show k + (i + 1) = k + 1 + i by omega]; exact this

theorem wpAny_parG {F : World → World → Prop} {St : Nat → World → World → Prop} {bad : Nat → Bool} {Bs : World → Prop} {dead : Nat → Nat → Bool} {P : Program} {md : Region.Mode} {l zs : List Oper} {Q : Exit → Act → World → Prop} {V : Nat → World → Value → Prop} {t : Array Value} {df : List Deferred} {w : World}
    (hA : apartB l = true) (hT : topoB md (l ++ zs) = true) (hW : tailB md (l ++ zs) l.length = true) (hF : ∀ i w' w'', i < l.length → F w w' → St i w' w'' → F w w'') (hV : ∀ i j w' w'' v, i < l.length → j < l.length → i ≠ j → dead i j = false → beforeB md (l ++ zs) i j = false → (∀ c, c < l.length → dead i c = true → beforeB md (l ++ zs) j c = false) → F w w' → St j w' w'' → V i w' v → V i w'' v) (hDead : deadB md (l ++ zs) l.length dead = true) (hB : ∀ i w' w'', i < l.length → bad i = false → F w w' → St i w' w'' → Bs w' → Bs w'') (hS : parStepsG F St (earlyB md (l ++ zs) l.length bad) Bs P md (l ++ zs) l Q V t df w l 0)
    (hD : ∀ x w', F w w' → holds V w' x (live l.length dead) → wpList P (l ++ zs).toArray Q zs { tmps := fill l 0 x t, defers := df } w') :
    ∀ (f : Nat) (listed : Array Bool) (x : Nat → Value) (w' : World), listed.size = (l ++ zs).length → (∀ i, l.length ≤ i → i < (l ++ zs).length → listed[i]? = some false) → (∀ (j : Nat) (o : Oper), (l ++ zs)[j]? = some o → listed[j]? = some true → ∀ i ∈ waits md o, listed[i]? = some true) → (listed.toList.filter (! ·)).length ≤ f → F w w' → (∀ i, i < l.length → listed[i]? = some true → (∀ j, j < l.length → dead i j = true → listed[j]? ≠ some true) → V i w' (x i)) → ((∀ j, j < l.length → bad j = true → listed[j]? ≠ some true) → Bs w') →
      wpAny P md (l ++ zs).toArray Q f listed { tmps := fill l 0 x t, defers := df } w' := by
  intro f
  induction f with
  | zero =>
    intro listed x w' hn hlast hdc hc hf hv hbs
    have hfa : ∀ i, i < listed.size → listed[i]? = some true := fun i hi => by
      cases hb : listed[i] with
      | true => rw [Array.getElem?_eq_getElem hi, hb]
      | false =>
        exfalso
        have : false ∈ listed.toList.filter (! ·) := by
          rw [List.mem_filter]
          exact ⟨by rw [← hb]; simp, rfl⟩
        rw [List.length_eq_zero_iff.1 (Nat.le_zero.1 hc)] at this
        cases this
    have hzn : zs = [] := by
      cases zs with
      | nil => rfl
      | cons z zs =>
        exfalso
        have h1 := hlast l.length (Nat.le_refl _) (by simp)
        rw [hfa l.length (by simp at hn; omega)] at h1
        cases h1
    refine wpAny_tail hT hW zs l.length 0 listed _ w' (Nat.le_refl _) (by simp) hn (fun i hi => ?_) hc (hD x w' hf (holds_of fun j hj => by
      simp only [live, List.mem_filter, List.mem_range, List.all_eq_true, Bool.not_eq_true'] at hj
      exact hv j hj.1 (hfa j (by simp at hn; omega)) fun k hk hd => by rw [hj.2 k hk] at hd; cases hd))
    rw [hfa i hi]
    subst hzn
    simp at hn
    simp; omega
  | succ f ih =>
    intro listed x w' hn hlast hdc hc hf hv hbs
    by_cases hall : ∀ j, j < l.length → listed[j]? = some true
    · refine wpAny_tail hT hW zs l.length (f + 1) listed _ w' (Nat.le_refl _) (by simp) hn (fun i hi => ?_) hc (hD x w' hf (holds_of fun j hj => by
        simp only [live, List.mem_filter, List.mem_range, List.all_eq_true, Bool.not_eq_true'] at hj
        exact hv j hj.1 (hall j hj.1) fun k hk hd => by rw [hj.2 k hk] at hd; cases hd))
      by_cases h : i < l.length
      · rw [hall i h]; simp [h]
      · rw [hlast i (by omega) (by omega)]; simp [h]
    · have key : ∀ i ∈ Region.ready md (l ++ zs).toArray listed, i < l.length := fun i hi => by
        obtain ⟨h1, o, ho, h2⟩ := mem_ready.1 hi
        have ho' : (l ++ zs)[i]? = some o := by simpa using ho
        have hil : i < (l ++ zs).length := (List.getElem?_eq_some_iff.1 ho').1
        by_cases hc2 : i < l.length
        · exact hc2
        · exfalso
          apply hall
          intro j hj
          simp only [tailB, List.all_eq_true, List.mem_range, Bool.or_eq_true, decide_eq_true_eq] at hW
          rcases hW i hil with h3 | h3
          · exact absurd h3 hc2
          · have h4 := h3 j (by omega)
            rw [ho'] at h4
            simp only [List.contains_eq_mem, decide_eq_true_eq] at h4
            refine clo_of (p := fun j => listed[j]? = some true) hdc _ _ (fun q hq => ?_) j h4
            simp only [waits, List.mem_map, List.mem_filter] at hq
            obtain ⟨e, ⟨he, hb⟩, rfl⟩ := hq
            have h6 := h2 e (by simpa using he) hb
            rw [Array.getD_eq_getD_getElem?] at h6
            cases h7 : listed[e.on]? with
            | none => rw [h7] at h6; cases h6
            | some b => rw [h7] at h6; simp at h6; rw [h6]
      refine ⟨fun hr => ?_, fun i hi => ?_⟩
      · exfalso
        apply hall
        have all : ∀ n i, i < n → i < l.length → listed[i]? = some true := by
          intro n
          induction n with
          | zero => intro i hi; omega
          | succ n ih2 =>
            intro i hi hil
            by_cases hb : listed[i]? = some true
            · exact hb
            · exfalso
              have hlt : i < listed.size := by simp at hn; omega
              have hb' : listed[i]? = some false := by
                rw [Array.getElem?_eq_getElem hlt] at hb ⊢
                cases hx : listed[i] with
                | false => rfl
                | true => rw [hx] at hb; exact absurd rfl hb
              have hil' : i < (l ++ zs).length := by simp; omega
              have : i ∈ Region.ready md (l ++ zs).toArray listed := by
                refine mem_ready.2 ⟨by simp [Array.getD_eq_getD_getElem?, hb'], (l ++ zs)[i], by rw [List.getElem?_toArray, List.getElem?_eq_getElem hil'], fun e he hbd => ?_⟩
                simp only [topoB, List.all_eq_true, List.mem_range] at hT
                have h1 := hT i hil'
                rw [List.getElem?_eq_getElem hil'] at h1
                simp only [List.all_eq_true, decide_eq_true_eq] at h1
                have h2 := h1 e.on (by simp only [waits, List.mem_map, List.mem_filter]; exact ⟨e, ⟨by simpa using he, hbd⟩, rfl⟩)
                have h3 := ih2 e.on (by omega) (by omega)
                simp [Array.getD_eq_getD_getElem?, h3]
              rw [hr] at this
              cases this
        exact fun j hj => all (j + 1) j (by omega) hj
      · have hil := key i hi
        obtain ⟨h1, o, ho, h2⟩ := mem_ready.1 hi
        have ho' : (l ++ zs)[i]? = some o := by simpa using ho
        have hol : l[i]? = some o := by rwa [List.getElem?_append_left hil] at ho'
        have hlt : i < listed.size := by simp at hn; omega
        have h5 : listed[i] = false := by
          simpa [Array.getD_eq_getD_getElem?, Array.getElem?_eq_getElem hlt] using h1
        have hwz : ∀ q ∈ waits md o, listed[q]? = some true := fun q hq => by
          simp only [waits, List.mem_map, List.mem_filter] at hq
          obtain ⟨e, ⟨he, hb⟩, rfl⟩ := hq
          have h6 := h2 e (by simpa using he) hb
          rw [Array.getD_eq_getD_getElem?] at h6
          cases h7 : listed[e.on]? with
          | none => rw [h7] at h6; cases h6
          | some b => rw [h7] at h6; simp at h6; rw [h6]
        have hlow : ∀ q ∈ waits md o, q < l.length := fun q hq => by
          simp only [topoB, List.all_eq_true, List.mem_range] at hT
          have g1 := hT i (by simp; omega)
          rw [ho'] at g1
          simp only [List.all_eq_true, decide_eq_true_eq] at g1
          have := g1 q hq
          omega
        have hst := parStepsG_at hS hol x w' hf (fun he => hbs fun j hj hbj hlj => by
          rw [Nat.zero_add] at he
          simp only [earlyB, List.all_eq_true, List.mem_range, Bool.or_eq_true, Bool.not_eq_true', beq_iff_eq] at he
          rcases he j hj with (h9 | h9) | h9
          · rw [hbj] at h9; cases h9
          · subst h9; rw [Array.getElem?_eq_getElem hlt, h5] at hlj; cases hlj
          · unfold beforeB at h9
            have hjl' : j < (l ++ zs).length := by simp; omega
            rw [List.getElem?_eq_getElem hjl'] at h9
            simp only [List.contains_eq_mem, decide_eq_true_eq] at h9
            have := clo_of (md := md) (l := l ++ zs) (p := fun q => listed[q]? = some true) hdc j _ (hdc j _ (List.getElem?_eq_getElem hjl') hlj) i h9
            rw [Array.getElem?_eq_getElem hlt, h5] at this
            cases this) (holds_of fun j hj => hv _ (hlow j hj) (hwz j hj) fun k hk hd => by
          rcases dead_of hDead (hlow j hj) hk hd hil ho' hj with this | h9
          · subst this
            rw [Array.getElem?_eq_getElem hlt, h5]; simp
          · intro hlj
            unfold beforeB at h9
            have hjl' : k < (l ++ zs).length := by simp; omega
            rw [List.getElem?_eq_getElem hjl'] at h9
            simp only [List.contains_eq_mem, decide_eq_true_eq] at h9
            have := clo_of (md := md) (l := l ++ zs) (p := fun q => listed[q]? = some true) hdc k _ (hdc k _ (List.getElem?_eq_getElem hjl') hlj) i h9
            rw [Array.getElem?_eq_getElem hlt, h5] at this
            cases this)
        refine wpOp_step ho fun K' hK => hst K' fun v w'' hf2 hv2 => ?_
        rw [fill_put hA hol]
        have keepk : ∀ k, listed[k]? = some true → (listed.setIfInBounds i true)[k]? = some true := fun k h => by
          rw [Array.getElem?_setIfInBounds]
          by_cases e : i = k
          · rw [if_pos e, if_pos (e ▸ hlt)]
          · rw [if_neg e]; exact h
        refine hK _ _ (ih _ _ _ (by simpa using hn) (fun j hj hj2 => ?_) (fun j p hp hj k hk => ?_) ?_ (hF i _ _ hil hf (by rw [Nat.zero_add] at hf2; exact hf2)) (fun j hjl hj hjd => ?_) (fun hnb => ?_))
        · rw [Array.getElem?_setIfInBounds, if_neg (by omega)]; exact hlast j hj hj2
        · by_cases e : i = j
          · subst e
            rw [ho'] at hp
            cases hp
            exact keepk k (hwz k hk)
          · rw [Array.getElem?_setIfInBounds, if_neg e] at hj
            exact keepk k (hdc j p hp hj k hk)
        · have := count_set listed.toList i (by simpa using hlt) (by simpa using h5)
          simp only [Array.toList_setIfInBounds]
          omega
        · by_cases e : i = j
          · subst e; simp only [upd, if_true]; simpa using hv2
          · rw [Array.getElem?_setIfInBounds, if_neg e] at hj
            simp only [upd, if_neg (Ne.symm e)]
            have hdf : dead j i = false := by
              cases hd : dead j i with
              | false => rfl
              | true => exact absurd (by rw [Array.getElem?_setIfInBounds, if_pos rfl, if_pos hlt]) (hjd i hil hd)
            have hbf : beforeB md (l ++ zs) j i = false := by
              cases hd : beforeB md (l ++ zs) j i with
              | false => rfl
              | true =>
                exfalso
                unfold beforeB at hd
                have hjl' : j < (l ++ zs).length := by simp; omega
                rw [List.getElem?_eq_getElem hjl'] at hd
                simp only [List.contains_eq_mem, decide_eq_true_eq] at hd
                have := clo_of (md := md) (l := l ++ zs) (p := fun q => listed[q]? = some true) hdc j _ (hdc j _ (List.getElem?_eq_getElem hjl') hj) i hd
                rw [Array.getElem?_eq_getElem hlt, h5] at this
                cases this
            have hnc : ∀ c, c < l.length → dead j c = true → beforeB md (l ++ zs) i c = false := by
              intro c hc hdc2
              cases hd : beforeB md (l ++ zs) i c with
              | false => rfl
              | true =>
                exfalso
                unfold beforeB at hd
                rw [ho'] at hd
                simp only [List.contains_eq_mem, decide_eq_true_eq] at hd
                exact hjd c hc hdc2 (keepk c (clo_of (md := md) (l := l ++ zs) (p := fun q => listed[q]? = some true) hdc i _ hwz c hd))
            refine hV j i _ _ _ hjl hil (Ne.symm e) hdf hbf hnc hf (by rw [Nat.zero_add] at hf2; exact hf2) (hv j hjl hj fun k hk hd hk2 => hjd k hk hd (keepk k hk2))
        · have hbi : bad i = false := by
            cases hb : bad i with
            | false => rfl
            | true => exact absurd (by rw [Array.getElem?_setIfInBounds, if_pos rfl, if_pos hlt]) (hnb i hil hb)
          exact hB i _ _ hil hbi hf (by rw [Nat.zero_add] at hf2; exact hf2) (hbs fun j hj hbj hlj => hnb j hj hbj (keepk j hlj))

def parStepsAG (F : World → World → Prop) (St : Nat → World → World → Prop) (ea : Nat → Bool) (Bs : World → Prop) (P : Program) (md : Region.Mode) (l : List Oper) (Q : Exit → Act → World → Prop) (V : Nat → World → Value → Prop) (t : Array Value) (w : World) : List Oper → Nat → Prop
  | [], _ => True
  | o :: r, i => (∀ (a : Act) (w' : World), F w w' → (ea i = true → Bs w') → (∀ k, (l.all fun o => o.dst != some k) = true → a.tmps.getD k undef = t.getD k undef) → holdsA V w' a l (waits md o) → ∀ K : Act → World → Prop, Shut (∀ v w'', St i w' w'' → V i w'' v → K (a.put o.dst v) w'') →
      if Region.wanted o (yielded l.toArray a.tmps) = true then o.wp P a w' K Q else K (a.put o.dst undef) w') ∧
    parStepsAG F St ea Bs P md l Q V t w r (i + 1)

theorem parStepsG_of {F : World → World → Prop} {St : Nat → World → World → Prop} {ea : Nat → Bool} {Bs : World → Prop} {P : Program} {md : Region.Mode} {l zs : List Oper} {Q : Exit → Act → World → Prop} {V : Nat → World → Value → Prop} {t : Array Value} {df : List Deferred} {w : World} (hA : apartB l = true) (hT : topoB md (l ++ zs) = true) (hsz : (l.all fun o => match o.dst with | some d => decide (d < t.size) | none => true) = true) :
    ∀ {r : List Oper} {k : Nat}, l.drop k = r → parStepsAG F St ea Bs P md (l ++ zs) Q V t w r k → parStepsG F St ea Bs P md (l ++ zs) l Q V t df w r k
  | [], _, _, _ => trivial
  | o :: r, k, hr, h => by
    have hk : l[k]? = some o := by
      have : (l.drop k)[0]? = some o := by rw [hr]; rfl
      simpa using this
    have hkl : k < l.length := (List.getElem?_eq_some_iff.1 hk).1
    refine ⟨fun x w' hf hb hp K hK => h.1 _ w' hf hb (fun j hj => by
      rw [Array.getD_eq_getD_getElem?, Array.getD_eq_getD_getElem?, fill_keep l 0 x t j (fun i o' ho' he => by
        simp only [List.all_eq_true, bne_iff_ne, ne_eq] at hj
        exact hj o' (List.mem_append_left _ (List.mem_of_getElem? ho')) he)]) (holdsA_ofT hA hsz (fun i hi => ?_) hp) K hK, parStepsG_of hA hT hsz (by rw [← List.drop_drop, hr]; rfl) h.2⟩
    simp only [topoB, List.all_eq_true, List.mem_range] at hT
    have g1 := hT k (by simp; omega)
    rw [List.getElem?_append_left hkl, hk] at g1
    simp only [List.all_eq_true, decide_eq_true_eq] at g1
    have := g1 i hi
    omega

/-- **Operations in any order, each of which tells what it may do, then a row of operations each of which comes alone.** -/
theorem wp_region_keepsG {P : Program} {id : Nat} {Q : Exit → Act → World → Prop} {t : Array Value} {df : List Deferred} {w : World} {all : List Oper} (F : World → World → Prop) (St : Nat → World → World → Prop) (bad : Nat → Bool) (Bs : World → Prop) (dead : Nat → Nat → Bool) (V : Nat → World → Value → Prop) (n : Nat) (hn : decide (n ≤ all.length) = true) (hm : P.follows .mixedOrders = true)
    (hA : apartB (all.take n) = true) (hT : topoB .any all = true) (hsz : ((all.take n).all fun o => match o.dst with | some d => decide (d < t.size) | none => true) = true) (hW : tailB .any all n = true)
    (hF0 : F w { w with drawn := w.drawn + 1 }) (hF : ∀ i w' w'', i < n → F w w' → St i w' w'' → F w w'') (hV : ∀ i j w' w'' v, i < n → j < n → i ≠ j → dead i j = false → beforeB .any all i j = false → (∀ c, c < n → dead i c = true → beforeB .any all j c = false) → F w w' → St j w' w'' → V i w' v → V i w'' v) (hDead : deadB .any all n dead = true) (hB : ∀ i w' w'', i < n → bad i = false → F w w' → St i w' w'' → Bs w' → Bs w'') (hB0 : Bs { w with drawn := w.drawn + 1 }) (hS : parStepsAG F St (earlyB .any all n bad) Bs P .any all Q V t w (all.take n) 0)
    (hD : ∀ x w', F w w' → holds V w' x (live n dead) → wpList P all.toArray Q (all.drop n) { tmps := fill (all.take n) 0 x t, defers := df } w') :
    (Code.region id all.toArray true).wp P Q { tmps := t, defers := df } w := by
  have e : all = all.take n ++ all.drop n := (List.take_append_drop n all).symm
  have hl : (all.take n).length = n := by simp at hn ⊢; omega
  refine wp_region_any hm ?_
  generalize hlz : all.take n = l at *
  generalize all.drop n = zs at *
  subst e
  subst hl
  have hS' := parStepsG_of (df := df) hA hT hsz (k := 0) (by simp) hS
  have h := wpAny_parG (V := V) hA hT hW hF hV hDead hB hS' hD (l ++ zs).toArray.size (Array.replicate (l ++ zs).toArray.size false) (fun i => ((l[i]?).bind (·.dst)).elim undef fun d => t.getD d undef) { w with drawn := w.drawn + 1 } (by simp) (fun i _ hi => by simp at hi; simp [Array.getElem?_replicate, hi]) (fun j o _ hj => by rw [Array.getElem?_replicate] at hj; split at hj <;> cases hj)
    (by simp) hF0 (fun i _ hi => by rw [Array.getElem?_replicate] at hi; split at hi <;> cases hi) (fun _ => hB0)
  rw [fill_id] at h
  · exact h
  · intro i o d ho hd
    rw [Nat.zero_add, ho]
    simp [hd]

/-- What a step may do: lay new memory; or (a step that changes something) change what is of L, or lies from N on. -/
def stC (N : Nat) (L : List Nat) : Bool → World → World → Prop
  | true => fun w w' => ∃ M, Fr M w w' ∧ ∀ x ∈ M, x ∈ L ∨ N ≤ x
  | false => fun w w' => Fr [] w w'
/-- A fact that outlives every such step. -/
def KeepsN (N : Nat) (L : List Nat) (p : World → Value → Prop) : Prop := ∀ M w w' v, (∀ x ∈ M, x ∈ L ∨ N ≤ x) → Fr M w w' → p w v → p w' v
theorem Is.keepsN {N : Nat} {L : List Nat} (v0 : Value) : KeepsN N L (Is v0) := fun _ _ _ _ _ _ h => h
theorem Any.keepsN {N : Nat} {L : List Nat} : KeepsN N L Any := fun _ _ _ _ _ _ h => h
def KeepsC (N : Nat) (L : List Nat) : List (Option Nat) → List (World → Value → Prop) → Prop
  | _, [] => True
  | none :: fr, p :: r => KeepsN N L p ∧ KeepsC N L fr r
  | some _ :: fr, p :: r => Keeps [] p ∧ KeepsC N L fr r
  | [], p :: r => KeepsN N L p ∧ KeepsC N L [] r
theorem KeepsC.nth {N : Nat} {L : List Nat} : ∀ {fr : List (Option Nat)} {l : List (World → Value → Prop)}, KeepsC N L fr l → ∀ i, if fr.getD i none = none then KeepsN N L (nth l i) else Keeps [] (nth l i)
  | [], [], _ => fun i => by simp [Go.Proofs.YtneggoonlmmjeaaGreat.nth]; exact fun _ _ _ _ _ _ h => h
  | a :: fr, [], _ => fun i => by
    split
    · exact fun _ _ _ _ _ _ h => h
    · exact fun _ _ _ _ h => h
  | none :: _, _ :: _, h => fun i => by
    cases i with
    | zero => simp; exact h.1
    | succ i => simpa [Go.Proofs.YtneggoonlmmjeaaGreat.nth] using KeepsC.nth h.2 i
  | some _ :: _, _ :: _, h => fun i => by
    cases i with
    | zero => simp; exact h.1
    | succ i => simpa [Go.Proofs.YtneggoonlmmjeaaGreat.nth] using KeepsC.nth h.2 i
  | [], _ :: r, h => fun i => by
    cases i with
    | zero => simp; exact h.1
    | succ i => have := KeepsC.nth (fr := []) h.2 i; simpa [Go.Proofs.YtneggoonlmmjeaaGreat.nth] using this
/-- A fact that a changing step may harm: that step uses it up, or is its own, or comes ahead. -/
def fragB (all : List Oper) (n : Nat) (mt : List Bool) (frag : List (Option Nat)) : Bool :=
  (List.range n).all fun i => match frag.getD i none with
    | none => true
    | some c => (List.range n).all fun k => !(mt.getD k false) || k == i || k == c || beforeB .any all i k || (decide (c < n) && beforeB .any all k c)
def deadC (frag : List (Option Nat)) (i j : Nat) : Bool := frag.getD i none == some j
theorem wp_region_keepsC {P : Program} {id : Nat} {Q : Exit → Act → World → Prop} {t : Array Value} {df : List Deferred} {w : World} {all : List Oper} (L : List Nat) (mt : List Bool) (frag : List (Option Nat)) (Bs : World → Prop) (Vs : List (World → Value → Prop)) (n : Nat) (hn : decide (n ≤ all.length) = true) (hm : P.follows .mixedOrders = true)
    (hA : apartB (all.take n) = true) (hT : topoB .any all = true) (hsz : ((all.take n).all fun o => match o.dst with | some d => decide (d < t.size) | none => true) = true) (hW : tailB .any all n = true)
    (hfr : fragB all n mt frag = true) (hDead : deadB .any all n (deadC frag) = true) (hV : KeepsC w.heap.size L frag Vs) (hB : ∀ w w', Fr [] w w' → Bs w → Bs w') (hB0 : Bs w)
    (hS : parStepsAG (Fr L) (fun i => stC w.heap.size L (mt.getD i false)) (earlyB .any all n fun k => mt.getD k false) Bs P .any all Q (Go.Proofs.YtneggoonlmmjeaaGreat.nth Vs) t w (all.take n) 0)
    (hD : ∀ x w', Fr L w w' → holds (Go.Proofs.YtneggoonlmmjeaaGreat.nth Vs) w' x (live n (deadC frag)) → wpList P all.toArray Q (all.drop n) { tmps := fill (all.take n) 0 x t, defers := df } w') :
    (Code.region id all.toArray true).wp P Q { tmps := t, defers := df } w := by
  refine wp_region_keepsG (Fr L) (fun i => stC w.heap.size L (mt.getD i false)) (fun k => mt.getD k false) Bs (deadC frag) (Go.Proofs.YtneggoonlmmjeaaGreat.nth Vs) n hn hm hA hT hsz hW ((Fr.refl L w).drewN 1) ?_ ?_ hDead (fun i w' w'' _ hb _ hs h => by rw [hb] at hs; exact hB _ _ hs h) (hB _ _ ((Fr.refl [] w).drewN 1) hB0) hS hD
  · intro i w' w'' hi hf hs
    cases hmu : mt.getD i false with
    | false => rw [hmu] at hs; exact hf.trans hs (fun _ hx => by cases hx)
    | true => rw [hmu] at hs; obtain ⟨M, h1, h2⟩ := hs; exact hf.trans h1 h2
  · intro i j w' w'' v hi hj hij hd hb hnc hf hs hv
    have hk := hV.nth i
    cases hfi : frag.getD i none with
    | none =>
      rw [hfi, if_pos rfl] at hk
      cases hmu : mt.getD j false with
      | false => rw [hmu] at hs; exact hk [] _ _ _ (fun _ hx => by cases hx) hs hv
      | true => rw [hmu] at hs; obtain ⟨M, h1, h2⟩ := hs; exact hk M _ _ _ h2 h1 hv
    | some c =>
      rw [hfi, if_neg (by simp)] at hk
      cases hmu : mt.getD j false with
      | false => rw [hmu] at hs; exact hk _ _ _ hs hv
      | true =>
        exfalso
        simp only [fragB, List.all_eq_true, List.mem_range] at hfr
        have h1 := hfr i hi
        rw [hfi] at h1
        simp only [List.all_eq_true, List.mem_range, Bool.or_eq_true, Bool.not_eq_true', beq_iff_eq, Bool.and_eq_true, decide_eq_true_eq] at h1
        have h2 := h1 j hj
        rw [hmu, hb] at h2
        simp only [deadC, hfi] at hd
        rcases h2 with (((h2 | h2) | h2) | h2) | h2
        · cases h2
        · exact hij h2.symm
        · subst h2; simp at hd
        · cases h2
        · rw [hnc c h2.1 (by unfold deadC; rw [hfi]; simp)] at h2
          cases h2.2

def Sl.blk (s : Sl) : List Nat := match s.A with | some a => [a.block] | none => []
theorem getD_bool (o : Option Value) (b : Bool) : (o.getD undef = Value.bool b) ↔ o = some (.bool b) := by
  cases o with
  | none => simp [undef]
  | some v => simp
/-- It is this value, and this holds of memory. -/
def IsW (x : Value) (B : World → Prop) : World → Value → Prop := fun w v => v = x ∧ B w
theorem IsW.keeps {x : Value} {B : World → Prop} (h : ∀ w w', Fr [] w w' → B w → B w') : Keeps [] (IsW x B) := fun _ _ _ f ⟨e, hb⟩ => ⟨e, h _ _ f hb⟩
theorem eval_tmp (a : Act) (k : Nat) : a.eval (.tmp k) = a.tmps[k]?.getD undef := by
  show a.tmps.getD k undef = _
  rw [Array.getD_eq_getD_getElem?]
theorem stC_grown {N : Nat} {L : List Nat} {w w' : World} {row : Option Nat} (g : w.grownBy w' row) (h : ∀ k, row = some k → k ∈ L ∨ N ≤ k) : stC N L true w w' := by
  cases row with
  | none => exact ⟨[], (Fr.refl _ _).grown g (fun _ hk => by cases hk), fun _ hx => by cases hx⟩
  | some k => exact ⟨[k], (Fr.refl _ _).grown g (fun j hj => .inl (by cases hj; simp)), fun x hx => by simp at hx; subst hx; exact h _ rfl⟩
/-- A slice of these cells, in a block that lay before. -/
def Rowed (N m : Nat) (xs : List Value) : World → Value → Prop := fun w v => ∃ ad c, v = .slice (some ad) m c ∧ ad.block < N ∧ ∀ j u, xs[j]? = some u → w.cell? (ad.add j) = some u
theorem add_block (ad : Addr) (j : Nat) : (ad.add j).block = ad.block := by
  unfold Addr.add; split <;> rfl
theorem Rowed.keepsN {N m : Nat} {xs : List Value} : KeepsN N [] (Rowed N m xs) := fun M w w' v hM f ⟨ad, c, e, hb, h⟩ =>
  ⟨ad, c, e, hb, fun j u hj => f.cell (h j u hj) fun hm => by
    rw [add_block] at hm
    rcases hM _ hm with h1 | h1
    · cases h1
    · omega⟩
theorem Rowed.fr {N m : Nat} {xs : List Value} {w w' : World} {v : Value} (h : Rowed N m xs w v) (f : Fr [] w w') : Rowed N m xs w' v := by
  obtain ⟨ad, c, e, hb, h⟩ := h
  exact ⟨ad, c, e, hb, fun j u hj => f.cell (h j u hj) (by simp)⟩
/-- A row of its own, that lies from N on. -/
def Own (N : Nat) (e : TypeId) (z n : Nat) (xs : List Value) : World → Value → Prop := fun w v => w.ownsRow N e z v n xs
theorem Own.keeps {N : Nat} {e : TypeId} {z n : Nat} {xs : List Value} : Keeps [] (Own N e z n xs) := fun w w' v f h => by
  refine ⟨h.1, h.2.imp id ?_⟩
  rintro ⟨g, cap, cur, e, hg, hb', r⟩
  exact ⟨g, cap, cur, e, hg, f.keeps hb' (by simp), r⟩
theorem Own.new {N : Nat} {w : World} (e : TypeId) (z : Nat) (h : N ≤ w.heap.size) : Own N e z 0 [] (w.alloc (.cells #[] e)) (.slice (some ⟨w.heap.size, 0, none⟩) 0 0) :=
  ⟨by simp, .inr ⟨w.heap.size, 0, #[], rfl, h, Blk.new w #[] e, Nat.le_refl _, by unfold maxLen; omega, by simp, by simp⟩⟩

theorem run_append_none {P : Program} (w : World) (t ty e : TypeId) (i : TypeInfo) (ht : P.underlying t = some (.slice e)) (hi : P.info? e = some i) (A : Option Addr) (n cap : Nat) (hn : n ≤ cap) :
    (Builtin.append_ #[t, t] ty #[.slice A n cap, .slice none 0 0]).run P w = .ok (.slice A n cap) w := by
  cases A with
  | none => simp [Builtin.append_, run_underlying ht, sizeOf, typeInfo, hi, Builtin.lenOf, Builtin.firstCells, loadCells, loadCellsFrom, hn]
  | some a => simp [Builtin.append_, run_underlying ht, sizeOf, typeInfo, hi, Builtin.lenOf, Builtin.firstCells, loadCells, loadCellsFrom, hn, storeCells]
/-- What a slice holds, nil let in. -/
def Src (m : Nat) (news : List Value) : World → Value → Prop := fun w v => (v = .slice none 0 0 ∧ m = 0 ∧ news = []) ∨ ∃ ad c, v = .slice (some ad) m c ∧ ∀ j u, news[j]? = some u → w.cell? (ad.add j) = some u
theorem Src.fr {m : Nat} {news : List Value} {w w' : World} {v : Value} {L : List Nat} (h : Src m news w v) (f : Fr L w w') (hn : ∀ A n c, v = .slice (some A) n c → A.block ∉ L) : Src m news w' v := by
  rcases h with h | ⟨ad, c, e, h⟩
  · exact .inl h
  · exact .inr ⟨ad, c, e, fun j u hj => f.cell (h j u hj) (by rw [add_block]; exact hn _ _ _ e)⟩
theorem Src.keeps {m : Nat} {news : List Value} : Keeps [] (Src m news) := fun w w' v f h => h.fr f (fun _ _ _ _ => by simp)
theorem Src.ints {k : IntKind} {w : World} {v : Value} {l : List Int} (h : Ints k w v l) : Src l.length (l.map (Value.int k)) w v := by
  rcases h with ⟨rfl, rfl⟩ | ⟨A, cap, rfl, hA⟩
  · exact .inl ⟨rfl, rfl, rfl⟩
  · exact .inr ⟨A, cap, rfl, hA.news⟩
theorem own_cap {w : World} {B : Nat} {e : TypeId} {z n : Nat} {v : Value} {xs : List Value} (h : w.ownsRow B e z v n xs) : ∃ A c, v = .slice A n c ∧ n ≤ c := by
  rcases h.2 with ⟨rfl, rfl⟩ | ⟨g, cap, cur, rfl, _, _, hc, _⟩
  · exact ⟨_, _, rfl, Nat.le_refl _⟩
  · exact ⟨_, _, rfl, hc⟩
theorem World.grownBy_refl (w : World) (row : Option Nat) : w.grownBy w row := ⟨rfl, rfl, rfl, Nat.le_refl _, fun _ _ _ => rfl⟩
theorem wp_append_src {P : Program} {w : World} {o : Oper} {a : Act} {K : Act → World → Prop} {Q : Exit → Act → World → Prop} (s x : Operand) (t : TypeId)
    (ho : o.op = .call { callee := .builtin .append, args := #[s, x], argTypes := #[t, t] })
    (base : Nat) (e : TypeId) (i : TypeInfo) (z : Value) (size bytes : Nat) (ht : P.underlying t = some (.slice e)) (hi : P.info? e = some i) (hz : i.zero = some z)
    (hsize : i.size = size) (hby : i.bytes = bytes) (hzs : z.cells.size = size) (hsz : 0 < size)
    (v : Value) (n : Nat) (xs : List Value) (hs : a.eval s = v) (hown : w.ownsRow base e size v n xs)
    (y : Value) (m : Nat) (news : List Value) (hx : a.eval x = y) (hsrc : Src m news w y) (hl : news.length = m * size) (h1 : ∀ u ∈ news, u.oneCell' = true)
    (h63 : n + m ≤ maxLen) (hbytes : (n + m) * bytes ≤ 140737488355328) (hbase : base ≤ w.heap.size)
    (h : ∀ v' w', w'.ownsRow base e size v' (n + m) (xs ++ news) → w.grownBy w' v.ownBlock → K (a.put o.dst v') w') : o.wp P a w K Q := by
  rcases hsrc with ⟨rfl, rfl, rfl⟩ | ⟨ad, c, rfl, hnews⟩
  · obtain ⟨A, cap, rfl, hc⟩ := own_cap hown
    have hr := run_append_none (P := P) w t o.type e i ht hi A n cap hc
    unfold Oper.wp execOp
    simp only [ho, resolve, invoke, builtin, Sem.run_bind, Sem.run_pure, Result.andThen_ok, List.map_toArray, List.map_cons, List.map_nil, hs, hx, hr]
    exact h _ _ (by simpa using hown) (World.grownBy_refl _ _)
  · exact wp_append_own w s x t ho base e i z size bytes ht hi hz hsize hby hzs hsz v n xs hs hown ad m c news hx hl hnews h1 h63 hbytes hbase fun v' w' h2 h3 _ => h v' w' h2 h3
theorem wpList_append_src {P : Program} {w : World} {ops : Array Oper} {rest : List Oper} {o : Oper} {a : Act} {Q : Exit → Act → World → Prop} (hgd : o.guard = none) (s x : Operand) (t : TypeId)
    (ho : o.op = .call { callee := .builtin .append, args := #[s, x], argTypes := #[t, t] })
    (base : Nat) (e : TypeId) (i : TypeInfo) (z : Value) (size bytes : Nat) (ht : P.underlying t = some (.slice e)) (hi : P.info? e = some i) (hz : i.zero = some z)
    (hsize : i.size = size) (hby : i.bytes = bytes) (hzs : z.cells.size = size) (hsz : 0 < size)
    (v : Value) (n : Nat) (xs : List Value) (hs : a.eval s = v) (hown : w.ownsRow base e size v n xs)
    (y : Value) (m : Nat) (news : List Value) (hx : a.eval x = y) (hsrc : Src m news w y) (hl : news.length = m * size) (h1 : ∀ u ∈ news, u.oneCell' = true)
    (h63 : n + m ≤ maxLen) (hbytes : (n + m) * bytes ≤ 140737488355328) (hbase : base ≤ w.heap.size)
    (h : ∀ v' w', w'.ownsRow base e size v' (n + m) (xs ++ news) → w.grownBy w' v.ownBlock → wpList P ops Q rest (a.put o.dst v') w') : wpList P ops Q (o :: rest) a w :=
  wpList_plain hgd fun _ hK => wp_append_src s x t ho base e i z size bytes ht hi hz hsize hby hzs hsz v n xs hs hown y m news hx hsrc hl h1 h63 hbytes hbase fun v' w' h2 h3 => hK _ _ (h v' w' h2 h3)

/-- An empty slice of its own, without room. -/
def Bare (N : Nat) (e : TypeId) (z : Nat) : World → Value → Prop := fun w v => ∃ g, v = .slice (some ⟨g, 0, none⟩) 0 0 ∧ w.ownsRow N e z v 0 []
theorem Bare.keeps {N : Nat} {e : TypeId} {z : Nat} : Keeps [] (Bare N e z) := fun w w' v f ⟨g, h, ho⟩ => ⟨g, h, Own.keeps w w' v f ho⟩
theorem Bare.new {N : Nat} {w : World} (e : TypeId) (z : Nat) (h : N ≤ w.heap.size) : Bare N e z (w.alloc (.cells #[] e)) (.slice (some ⟨w.heap.size, 0, none⟩) 0 0) := ⟨_, rfl, Own.new e z h⟩
theorem run_append_bare {P : Program} {w : World} (base : Nat) (t ty e : TypeId) (i : TypeInfo) (z : Value) (size bytes : Nat) (ht : P.underlying t = some (.slice e)) (hi : P.info? e = some i) (hz : i.zero = some z)
    (hsize : i.size = size) (hby : i.bytes = bytes) (hzs : z.cells.size = size) (hsz : 0 < size)
    (v : Value) (hb : Bare base e size w v) (y : Value) (m : Nat) (news : List Value) (hsrc : Src m news w y) (hl : news.length = m * size) (h1 : ∀ u ∈ news, u.oneCell' = true)
    (h63 : m ≤ maxLen) (hbytes : m * bytes ≤ 140737488355328) (hbase : base ≤ w.heap.size) :
    ∃ v' w', (Builtin.append_ #[t, t] ty #[v, y]).run P w = .ok v' w' ∧ w'.ownsRow base e size v' m news ∧ Fr [] w w' := by
  obtain ⟨g, rfl, ho⟩ := hb
  rcases hsrc with ⟨rfl, rfl, rfl⟩ | ⟨a, c, rfl, hnews⟩
  · exact ⟨_, _, run_append_none w t ty e i ht hi _ 0 0 (Nat.le_refl _), ho, Fr.refl _ _⟩
  · by_cases hm : m = 0
    · subst hm
      have hn : news = [] := List.eq_nil_of_length_eq_zero (by simpa using hl)
      subst hn
      have hf := run_firstCells_some (P := P) w i.size 0 a 0 c [] (by simp) (by simp)
      refine ⟨_, w, ?_, ho, Fr.refl _ _⟩
      simp [Builtin.append_, run_underlying ht, sizeOf, typeInfo, hi, Builtin.lenOf, hf, storeCells]
    · obtain ⟨v', w', hr, h2, -, -⟩ := run_append_own (P := P) w base t ty e i z size bytes ht hi hz hsize hby hzs hsz _ 0 [] ho a m c news hl hnews h1 (by omega) (by simpa using hbytes) hbase
      have hr2 := run_append_grow (P := P) w t ty e i z ht hi hz ⟨g, 0, none⟩ 0 0 [] (by simp) (by simp) a m c news (by rw [hsize]; exact hl) hnews (by omega) (by unfold maxLen at h63; omega) (growslice_fits (by omega) (by rw [hby]; simpa using hbytes))
      rw [hr] at hr2
      injection hr2 with e1 e2
      rw [Nat.zero_add, List.nil_append] at h2
      refine ⟨v', w', hr, h2, ?_⟩
      rw [e2]
      exact ((Fr.refl _ _).drew).alloc _
theorem wp_append_bare {P : Program} {w : World} {o : Oper} {a : Act} {K : Act → World → Prop} {Q : Exit → Act → World → Prop} (s x : Operand) (t : TypeId)
    (ho : o.op = .call { callee := .builtin .append, args := #[s, x], argTypes := #[t, t] })
    (base : Nat) (e : TypeId) (i : TypeInfo) (z : Value) (size bytes : Nat) (ht : P.underlying t = some (.slice e)) (hi : P.info? e = some i) (hz : i.zero = some z)
    (hsize : i.size = size) (hby : i.bytes = bytes) (hzs : z.cells.size = size) (hsz : 0 < size)
    (v : Value) (hs : a.eval s = v) (hb : Bare base e size w v)
    (y : Value) (m : Nat) (news : List Value) (hx : a.eval x = y) (hsrc : Src m news w y) (hl : news.length = m * size) (h1 : ∀ u ∈ news, u.oneCell' = true)
    (h63 : m ≤ maxLen) (hbytes : m * bytes ≤ 140737488355328) (hbase : base ≤ w.heap.size)
    (h : ∀ v' w', w'.ownsRow base e size v' m news → Fr [] w w' → K (a.put o.dst v') w') : o.wp P a w K Q := by
  obtain ⟨v', w', hr, h2, h3⟩ := run_append_bare (P := P) (w := w) base t o.type e i z size bytes ht hi hz hsize hby hzs hsz v hb y m news hsrc hl h1 h63 hbytes hbase
  unfold Oper.wp execOp
  simp only [ho, resolve, invoke, builtin, Sem.run_bind, Sem.run_pure, Result.andThen_ok, List.map_toArray, List.map_cons, List.map_nil, hs, hx, hr]
  exact h v' w' h2 h3
theorem Rowed.src {N m : Nat} {xs : List Value} {w : World} {v : Value} (h : Rowed N m xs w v) : Src m xs w v := by
  obtain ⟨ad, c, e, _, hc⟩ := h
  exact .inr ⟨ad, c, e, hc⟩
/-- What a slice holds that does not lie in L, nor from N on. -/
def SrcO (N : Nat) (L : List Nat) (m : Nat) (xs : List Value) : World → Value → Prop := fun w v => Src m xs w v ∧ ∀ A n c, v = .slice (some A) n c → A.block < N ∧ A.block ∉ L
theorem SrcO.keepsN {N m : Nat} {L : List Nat} {xs : List Value} : KeepsN N L (SrcO N L m xs) := fun M w w' v hM f ⟨h, ho⟩ =>
  ⟨h.fr f fun A n c e hm => by rcases hM _ hm with h1 | h1; exact (ho A n c e).2 h1; have := (ho A n c e).1; omega, ho⟩
/-- One element, in a fresh block. -/
theorem Src.one {w : World} {cs : Array Value} {t : TypeId} : Src 1 cs.toList (w.alloc (.cells cs t)) (.slice (some ⟨w.heap.size, 0, none⟩) 1 1) :=
  .inr ⟨_, _, rfl, fun j u hj => by rw [Go.WideShapes.add_plain, Nat.zero_add]; exact (Blk.new w cs t).cell j (by simpa using hj)⟩
end Go.Proofs.YtneggoonlmmjeaaGreat
namespace Go.Proofs.YtneggoonlmmjeaaGreat
open Go.RowKit
set_option linter.unusedVariables false
set_option linter.unusedSimpArgs false
set_option maxRecDepth 100000

/-- A PDU, its bytes as numbers. -/
structure PD where
  to : Int
  fr : Int
  rs : Bool
  fm : Int
  kd : Int
  ns : Int
  nr : Int
  po : Bool
  info : List Int
deriving DecidableEq
abbrev PD.val (d : PD) (s : Sl) : Value := .agg #[.int .i64 d.to, .int .i64 d.fr, .bool d.rs, .int .i64 d.fm, .int .i64 d.kd, .int .i64 d.ns, .int .i64 d.nr, .bool d.po, .slice s.A s.n s.c]
abbrev PD.arr (d : PD) (s : Sl) : Array Value := #[.int .i64 d.to, .int .i64 d.fr, .bool d.rs, .int .i64 d.fm, .int .i64 d.kd, .int .i64 d.ns, .int .i64 d.nr, .bool d.po, .slice s.A s.n s.c]
def PD.none : PD := ⟨0, 0, false, 0, 0, 0, 0, false, []⟩
/-- A slice of these bytes, that lies below N, or in a block of bytes. -/
def Bts (N : Nat) (w : World) (s : Sl) (l : List Int) : Prop := Ints .u8 w s.v l ∧ (l ≠ [] → ∀ b ∈ s.blk, b < N ∨ ∃ cs f, w.heap[b]? = some (.cells cs 5 f))
theorem Ints.n' {k : IntKind} {w : World} {s : Sl} {l : List Int} (h : Ints k w s.v l) : s.n = l.length := by
  rcases h with ⟨e, rfl⟩ | ⟨A, cap, e, _⟩
  · cases s; simp [Sl.v] at e; simp [e]
  · cases s; simp [Sl.v] at e; simp [e]
theorem Ints.at' {k : IntKind} {w : World} {s : Sl} {l : List Int} (h : Ints k w s.v l) (i : Nat) (hi : i < l.length) : ∃ b off, s.A = some ⟨b, off, none⟩ ∧ w.cell? ⟨b, off + i, none⟩ = some (.int k l[i]) := by
  rcases h with ⟨e, rfl⟩ | ⟨A, cap, e, hA⟩
  · simp at hi
  · obtain ⟨b, off, x, eA, hc, -, rfl⟩ := hA.at_ i hi
    cases eA
    cases s
    simp only [Sl.v, Value.slice.injEq] at e
    exact ⟨b, off, e.1, hc⟩
theorem Bts.n {N : Nat} {w : World} {s : Sl} {l : List Int} (h : Bts N w s l) : s.n = l.length := h.1.n'
theorem Bts.nil (N : Nat) (w : World) : Bts N w Sl.nil [] := ⟨Ints.nil _ _, fun h => absurd rfl h⟩
theorem Bts.fr {N : Nat} {w w' : World} {s : Sl} {l : List Int} (h : Bts N w s l) (f : Fr [] w w') : Bts N w' s l := ⟨h.1.fr f, fun hl b hb => (h.2 hl b hb).imp id fun ⟨cs, fz, e⟩ => ⟨cs, fz, f.keeps e (by simp)⟩⟩
theorem blk_mem {s : Sl} {A : Addr} {n c : Nat} (e : s.v = .slice (some A) n c) : A.block ∈ s.blk := by cases s; simp only [Sl.v, Value.slice.injEq] at e; simp [Sl.blk, e.1]
theorem mem_blk {s : Sl} {b : Nat} (h : b ∈ s.blk) : ∃ A, s.A = some A ∧ A.block = b := by
  cases hA : s.A with
  | none => simp [Sl.blk, hA] at h
  | some a => simp [Sl.blk, hA] at h; exact ⟨a, rfl, h.symm⟩
/-- Behind a change of blocks from N on that hold no bytes. -/
theorem Bts.frL {N : Nat} {w w' : World} {s : Sl} {l : List Int} {L : List Nat} (h : Bts N w s l) (f : Fr L w w') (hL : ∀ x ∈ L, N ≤ x ∧ ∀ cs fz, w.heap[x]? ≠ some (.cells cs 5 fz)) : Bts N w' s l := by
  by_cases hl : l = []
  · subst hl
    refine ⟨?_, fun h => absurd rfl h⟩
    rcases h.1 with h1 | ⟨A, cap, e, h1⟩
    · exact .inl h1
    · exact .inr ⟨A, cap, e, by simp, .inl rfl⟩
  · have hn : ∀ b ∈ s.blk, b ∉ L := fun b hb hm => by
      rcases h.2 hl b hb with h1 | ⟨cs, fz, e⟩
      · have := (hL b hm).1; omega
      · exact (hL b hm).2 cs fz e
    exact ⟨h.1.frL f fun A n c e => hn _ (blk_mem e), fun hl b hb => (h.2 hl b hb).imp id fun ⟨cs, fz, e⟩ => ⟨cs, fz, f.keeps e (hn b hb)⟩⟩
theorem Bts.more {N N' : Nat} {w : World} {s : Sl} {l : List Int} (h : Bts N w s l) (hN : N ≤ N') : Bts N' w s l := ⟨h.1, fun hl b hb => (h.2 hl b hb).imp (fun h => by omega) id⟩
theorem Bts.low {N : Nat} {w : World} {s : Sl} {l : List Int} (h : Bts N w s l) (N' : Nat) (hy : ∀ b ∈ s.blk, N ≤ b) : Bts N' w s l := ⟨h.1, fun hl b hb => .inr ((h.2 hl b hb).resolve_left (fun h => by have := hy b hb; omega))⟩
/-- An argument's bytes. -/
theorem Bts.arg {w : World} {s : Sl} {l : List Int} (h : Ints .u8 w s.v l) : Bts w.heap.size w s l := by
  refine ⟨h, fun hl b hb => .inl ?_⟩
  obtain ⟨A, hA, rfl⟩ := mem_blk hb
  obtain ⟨b, o, e, hc⟩ := h.at' 0 (List.length_pos_iff.2 hl)
  rw [hA] at e; cases e
  exact World.block_lt_of_cell? w _ hc
theorem Bts.own {N : Nat} {w : World} {s : Sl} {l : List Int} (h : w.ownsRow N 5 1 s.v l.length (l.map (Value.int .u8))) (hw : ∀ x ∈ l, (Lit.int .u8 x).wf = true) (N' : Nat) : Bts N' w s l := by
  refine ⟨Ints.own h hw, fun hl b hb => .inr ?_⟩
  obtain ⟨A, hA, rfl⟩ := mem_blk hb
  rcases h.2 with ⟨e, _⟩ | ⟨g, cap, cur, e, hg, hc, _⟩
  · cases s; simp only [Sl.v, Value.slice.injEq] at e; rw [e.1] at hA; cases hA
  · cases s; simp only [Sl.v, Value.slice.injEq] at e; rw [e.1] at hA; cases hA; exact ⟨_, _, hc⟩
theorem Bts.wf {N : Nat} {w : World} {s : Sl} {l : List Int} (h : Bts N w s l) : ∀ x ∈ l, (Lit.int .u8 x).wf = true := by
  rcases h.1 with ⟨_, rfl⟩ | ⟨A, cap, e, h1⟩
  · simp
  · exact h1.1
theorem own_blk {w : World} {B : Nat} {e : TypeId} {size n : Nat} {s : Sl} {xs : List Value} (h : w.ownsRow B e size s.v n xs) : ∀ b ∈ s.blk, B ≤ b ∧ ∃ cs, w.heap[b]? = some (.cells cs e (0, 0)) := by
  intro b hb
  obtain ⟨A, hA, rfl⟩ := mem_blk hb
  rcases h.2 with ⟨e, _⟩ | ⟨g, cap, cur, e, hg, hc, _⟩
  · cases s; simp only [Sl.v, Value.slice.injEq] at e; rw [e.1] at hA; cases hA
  · cases s; simp only [Sl.v, Value.slice.injEq] at e; rw [e.1] at hA; cases hA; exact ⟨hg, _, hc⟩
theorem own_sl' {w : World} {B : Nat} {e : TypeId} {z n : Nat} {v : Value} {xs : List Value} (h : w.ownsRow B e z v n xs) : ∃ s : Sl, v = .slice s.A s.n s.c := by
  rcases h.2 with ⟨e, _⟩ | ⟨g, cap, cur, e, _⟩
  · exact ⟨Sl.nil, e⟩
  · exact ⟨⟨_, _, _⟩, e⟩
theorem own_fr {w w' : World} {B : Nat} {e : TypeId} {size n : Nat} {v : Value} {xs : List Value} (h : w.ownsRow B e size v n xs) (f : Fr [] w w') : w'.ownsRow B e size v n xs := Own.keeps _ _ _ f h
/-- Fresh bytes: what a function hands out. -/
def New (w w' : World) (v : Value) (l : List Int) : Prop := ∃ s : Sl, v = .slice s.A s.n s.c ∧ Bts w.heap.size w' s l ∧ (∀ b ∈ s.blk, w.heap.size ≤ b)
theorem band1 {z : Int} (h0 : 0 ≤ z) (h1 : z < 2 ^ 63) : bits .and .i64 z 1 = z % 2 := by
  have h := bits_mask .i64 63 (by decide) (fun n h0 h1 => IntWalk.i64_in n (by omega)) 1 (by decide) z h0 h1
  simpa using h
theorem slnil (a : Addr) (n c : Nat) (w : World) : (binOp BinOp.eql 49 (Value.slice (some a) n c) (Value.slice none 0 0)).run Tryz.prog w = .ok (.bool false) w := by kernel_rfl
theorem slnil0 (n c : Nat) (w : World) : (binOp BinOp.eql 49 (Value.slice none n c) (Value.slice none 0 0)).run Tryz.prog w = .ok (.bool true) w := by kernel_rfl
attribute [local go_sem] slnil slnil0

set_option maxHeartbeats 1000000 in
theorem bytes_Clone (w : World) (N : Nat) (s : Sl) (l : List Int) (h : Bts N w s l) (hl : l.length ≤ 100000) :
    Calls Tryz.prog 96 #[.slice s.A s.n s.c] w fun e w' => ∃ s' : Sl, e = .returned (.slice s'.A s'.n s'.c) ∧ Bts N w' s' l ∧ (∀ b ∈ s'.blk, w.heap.size ≤ b) ∧ Fr [] w w' := by
  obtain ⟨ji, j0, j1, j2, j3⟩ := info_parts (show (Tryz.prog.info? 5).map (fun i => (i.zero, i.size, i.bytes)) = some (some (.int .u8 0), 1, 1) by kernel_rfl)
  have ju : Tryz.prog.underlying 49 = some (.slice 5) := Tryz.underlying49
  cases hA : s.A with
  | none =>
    have hl0 : l = [] := by
      rcases h.1 with ⟨_, h⟩ | ⟨A, cap, e, _⟩
      · exact h
      · cases s; simp only [Sl.v, Value.slice.injEq] at e; rw [e.1] at hA; cases hA
    subst hl0
    go_enter Tryz.func96, Tryz.ntmps96
    go_wp2
    go_ret
    exact ⟨Sl.nil, rfl, Bts.nil _ _, by simp [Sl.blk, Sl.nil], Fr.refl _ _⟩
  | some a =>
    have hw := h.wf
    have hsrc : Src l.length (l.map (Value.int .u8)) (w.alloc (.cells #[] 5)) s.v := (Src.ints h.1).fr ((Fr.refl [] w).alloc _) (fun _ _ _ _ => by simp)
    rw [show s.v = .slice (some a) s.n s.c by rw [← hA]] at hsrc
    clear hA h
    go_enter Tryz.func96, Tryz.ntmps96
    go_wp2_with (at_builtin; refine wpList_append_src rfl _ _ 49 rfl w.heap.size 5 ji (.int .u8 0) 1 1 ju j0 j1 j2 j3 rfl (by decide) _ 0 [] rfl (Own.new (N := w.heap.size) 5 1 (Nat.le_refl _)) _ l.length (l.map (Value.int .u8)) rfl hsrc (by simp) ints_one (by unfold maxLen; omega) (by omega) (by simp) ?_)
    intro v' w4 hown4 hgrow
    obtain ⟨s2, rfl⟩ := own_sl' hown4
    have f4 : Fr [] w w4 := ((Fr.refl [] w).alloc _).grown hgrow (fun k hk => .inr (by cases hk; exact Nat.le_refl _))
    go_wp2
    go_ret
    exact ⟨s2, rfl, Bts.own hown4 hw _, fun b hb => (own_blk hown4 b hb).1, f4⟩


def within (x m : Int) : Bool := decide (0 ≤ x) && decide (x ≤ m)
def odd (x : Int) : Bool := x % 2 == 1
/-- Whether a U PDU may be as its kind asks. -/
def kindB (d : PD) : Bool :=
  if d.kd = 0 then !d.rs
  else if d.kd = 1 ∨ d.kd = 2 then true
  else if d.kd = 3 ∨ d.kd = 4 then !d.rs && !odd d.to && (d.info.length : Int) == 4
  else if d.kd = 5 ∨ d.kd = 6 then d.rs && !odd d.to && (d.info.length : Int) == 4
  else if d.kd = 7 then d.rs && !odd d.to && (d.info.length : Int) == 5
  else if d.kd = 8 ∨ d.kd = 9 then !odd d.to
  else false
/-- Whether a PDU may be. -/
def mayB (d : PD) : Bool :=
  within d.to 255 && within d.fr 254 && !odd d.fr && within d.ns 127 && within d.nr 127 && decide ((d.info.length : Int) ≤ 1040) &&
  (if d.fm = 0 then d.kd == 0 && !odd d.to
   else if d.fm = 1 then within d.kd 2 && d.ns == 0 && (d.info.length : Int) == 0 && !odd d.to
   else if d.fm = 2 then d.ns == 0 && d.nr == 0 && kindB d
   else false)
theorem pdu_within (x m : Int) (w : World) : Calls Tryz.prog 166 #[.int .i64 x, .int .i64 m] w fun e w' => e = .returned (.bool (within x m)) ∧ w = w' := by
  unfold within
  by_cases h1 : 0 ≤ x
  · have d1 : decide (0 ≤ x) = true := by simpa using h1
    cases d2 : decide (x ≤ m)
    all_goals
      rw [d1]
      go_enter Tryz.func166, Tryz.ntmps166
      go_wp2
      go_ret
      exact ⟨rfl, rfl⟩
  · have d1 : decide (0 ≤ x) = false := by simpa using h1
    rw [d1]
    go_enter Tryz.func166, Tryz.ntmps166
    go_wp2
    go_ret
    exact ⟨rfl, rfl⟩

set_option maxHeartbeats 4000000 in
theorem pdu_kind (d : PD) (s : Sl) (w : World) (hn : s.n = d.info.length) (h0 : 0 ≤ d.to) (h1 : d.to ≤ 255) : Calls Tryz.prog 167 #[d.val s] w fun e w' => e = .returned (.bool (kindB d)) ∧ Fr [] w w' := by
  obtain ⟨to, fr, rs, fm, kd, ns, nr, po, info⟩ := d
  obtain ⟨A, n, c⟩ := s
  simp only at hn h0 h1
  subst hn
  have hb := band1 h0 (by omega)
  simp only [PD.val]
  by_cases hc0 : kd = 0
  · have e0 : (kd == 0) = true := by simp; omega
    have e0n : (kd != 0) = false := by simp; omega
    cases rs with
    | true =>
      have hk : kindB (⟨to, fr, true, fm, kd, ns, nr, po, info⟩ : PD) = false := by simp only [kindB]; rw [if_pos (by omega)]; rfl
      rw [hk]
      clear hk 
      go_enter Tryz.func167, Tryz.ntmps167
      go_wp2
      go_ret
      exact ⟨rfl, (Fr.refl _ _).alloc _⟩
    | false =>
      have hk : kindB (⟨to, fr, false, fm, kd, ns, nr, po, info⟩ : PD) = true := by simp only [kindB]; rw [if_pos (by omega)]; rfl
      rw [hk]
      clear hk 
      go_enter Tryz.func167, Tryz.ntmps167
      go_wp2
      go_ret
      exact ⟨rfl, (Fr.refl _ _).alloc _⟩
  · have e0 : (kd == 0) = false := by simp; omega
    have e0n : (kd != 0) = true := by simp; omega
    by_cases hc1 : kd = 1
    · have e1 : (kd == 1) = true := by simp; omega
      have e1n : (kd != 1) = false := by simp; omega
      have hk : kindB (⟨to, fr, rs, fm, kd, ns, nr, po, info⟩ : PD) = true := by simp only [kindB]; rw [if_neg (by omega), if_pos (by omega)]
      rw [hk]
      clear hk 
      go_enter Tryz.func167, Tryz.ntmps167
      go_wp2
      go_ret
      exact ⟨rfl, (Fr.refl _ _).alloc _⟩
    · have e1 : (kd == 1) = false := by simp; omega
      have e1n : (kd != 1) = true := by simp; omega
      by_cases hc2 : kd = 2
      · have e2 : (kd == 2) = true := by simp; omega
        have e2n : (kd != 2) = false := by simp; omega
        have hk : kindB (⟨to, fr, rs, fm, kd, ns, nr, po, info⟩ : PD) = true := by simp only [kindB]; rw [if_neg (by omega), if_pos (by omega)]
        rw [hk]
        clear hk 
        go_enter Tryz.func167, Tryz.ntmps167
        go_wp2
        go_ret
        exact ⟨rfl, (Fr.refl _ _).alloc _⟩
      · have e2 : (kd == 2) = false := by simp; omega
        have e2n : (kd != 2) = true := by simp; omega
        by_cases hc3 : kd = 3
        · have e3 : (kd == 3) = true := by simp; omega
          have e3n : (kd != 3) = false := by simp; omega
          cases rs with
          | true =>
            have hk : kindB (⟨to, fr, true, fm, kd, ns, nr, po, info⟩ : PD) = false := by simp only [kindB]; rw [if_neg (by omega), if_neg (by omega), if_pos (by omega)]; simp
            rw [hk]
            clear hk 
            go_enter Tryz.func167, Tryz.ntmps167
            go_wp2
            go_ret
            exact ⟨rfl, (Fr.refl _ _).alloc _⟩
          | false =>
            by_cases ho : to % 2 = 1
            · have eo : (to % 2 == 1) = true := by simp; omega
              have hk : kindB (⟨to, fr, false, fm, kd, ns, nr, po, info⟩ : PD) = false := by simp only [kindB]; rw [if_neg (by omega), if_neg (by omega), if_pos (by omega)]; simp [odd, ho]
              rw [hk]
              clear hk 
              go_enter Tryz.func167, Tryz.ntmps167
              go_wp2
              go_ret
              exact ⟨rfl, (Fr.refl _ _).alloc _⟩
            · have eo : (to % 2 == 1) = false := by simp; omega
              by_cases hl : (info.length : Int) = 4
              · have el : ((info.length : Int) == 4) = true := by simp; omega
                have hk : kindB (⟨to, fr, false, fm, kd, ns, nr, po, info⟩ : PD) = true := by simp only [kindB]; rw [if_neg (by omega), if_neg (by omega), if_pos (by omega)]; simp [odd, ho, hl]
                rw [hk]
                clear hk 
                go_enter Tryz.func167, Tryz.ntmps167
                go_wp2
                go_ret
                exact ⟨rfl, (Fr.refl _ _).alloc _⟩
              · have el : ((info.length : Int) == 4) = false := by simp; omega
                have hk : kindB (⟨to, fr, false, fm, kd, ns, nr, po, info⟩ : PD) = false := by simp only [kindB]; rw [if_neg (by omega), if_neg (by omega), if_pos (by omega)]; simp [odd, ho, hl]
                rw [hk]
                clear hk 
                go_enter Tryz.func167, Tryz.ntmps167
                go_wp2
                go_ret
                exact ⟨rfl, (Fr.refl _ _).alloc _⟩
        · have e3 : (kd == 3) = false := by simp; omega
          have e3n : (kd != 3) = true := by simp; omega
          by_cases hc4 : kd = 4
          · have e4 : (kd == 4) = true := by simp; omega
            have e4n : (kd != 4) = false := by simp; omega
            cases rs with
            | true =>
              have hk : kindB (⟨to, fr, true, fm, kd, ns, nr, po, info⟩ : PD) = false := by simp only [kindB]; rw [if_neg (by omega), if_neg (by omega), if_pos (by omega)]; simp
              rw [hk]
              clear hk 
              go_enter Tryz.func167, Tryz.ntmps167
              go_wp2
              go_ret
              exact ⟨rfl, (Fr.refl _ _).alloc _⟩
            | false =>
              by_cases ho : to % 2 = 1
              · have eo : (to % 2 == 1) = true := by simp; omega
                have hk : kindB (⟨to, fr, false, fm, kd, ns, nr, po, info⟩ : PD) = false := by simp only [kindB]; rw [if_neg (by omega), if_neg (by omega), if_pos (by omega)]; simp [odd, ho]
                rw [hk]
                clear hk 
                go_enter Tryz.func167, Tryz.ntmps167
                go_wp2
                go_ret
                exact ⟨rfl, (Fr.refl _ _).alloc _⟩
              · have eo : (to % 2 == 1) = false := by simp; omega
                by_cases hl : (info.length : Int) = 4
                · have el : ((info.length : Int) == 4) = true := by simp; omega
                  have hk : kindB (⟨to, fr, false, fm, kd, ns, nr, po, info⟩ : PD) = true := by simp only [kindB]; rw [if_neg (by omega), if_neg (by omega), if_pos (by omega)]; simp [odd, ho, hl]
                  rw [hk]
                  clear hk 
                  go_enter Tryz.func167, Tryz.ntmps167
                  go_wp2
                  go_ret
                  exact ⟨rfl, (Fr.refl _ _).alloc _⟩
                · have el : ((info.length : Int) == 4) = false := by simp; omega
                  have hk : kindB (⟨to, fr, false, fm, kd, ns, nr, po, info⟩ : PD) = false := by simp only [kindB]; rw [if_neg (by omega), if_neg (by omega), if_pos (by omega)]; simp [odd, ho, hl]
                  rw [hk]
                  clear hk 
                  go_enter Tryz.func167, Tryz.ntmps167
                  go_wp2
                  go_ret
                  exact ⟨rfl, (Fr.refl _ _).alloc _⟩
          · have e4 : (kd == 4) = false := by simp; omega
            have e4n : (kd != 4) = true := by simp; omega
            by_cases hc5 : kd = 5
            · have e5 : (kd == 5) = true := by simp; omega
              have e5n : (kd != 5) = false := by simp; omega
              cases rs with
              | true =>
                by_cases ho : to % 2 = 1
                · have eo : (to % 2 == 1) = true := by simp; omega
                  have hk : kindB (⟨to, fr, true, fm, kd, ns, nr, po, info⟩ : PD) = false := by simp only [kindB]; rw [if_neg (by omega), if_neg (by omega), if_neg (by omega), if_pos (by omega)]; simp [odd, ho]
                  rw [hk]
                  clear hk 
                  go_enter Tryz.func167, Tryz.ntmps167
                  go_wp2
                  go_ret
                  exact ⟨rfl, (Fr.refl _ _).alloc _⟩
                · have eo : (to % 2 == 1) = false := by simp; omega
                  by_cases hl : (info.length : Int) = 4
                  · have el : ((info.length : Int) == 4) = true := by simp; omega
                    have hk : kindB (⟨to, fr, true, fm, kd, ns, nr, po, info⟩ : PD) = true := by simp only [kindB]; rw [if_neg (by omega), if_neg (by omega), if_neg (by omega), if_pos (by omega)]; simp [odd, ho, hl]
                    rw [hk]
                    clear hk 
                    go_enter Tryz.func167, Tryz.ntmps167
                    go_wp2
                    go_ret
                    exact ⟨rfl, (Fr.refl _ _).alloc _⟩
                  · have el : ((info.length : Int) == 4) = false := by simp; omega
                    have hk : kindB (⟨to, fr, true, fm, kd, ns, nr, po, info⟩ : PD) = false := by simp only [kindB]; rw [if_neg (by omega), if_neg (by omega), if_neg (by omega), if_pos (by omega)]; simp [odd, ho, hl]
                    rw [hk]
                    clear hk 
                    go_enter Tryz.func167, Tryz.ntmps167
                    go_wp2
                    go_ret
                    exact ⟨rfl, (Fr.refl _ _).alloc _⟩
              | false =>
                have hk : kindB (⟨to, fr, false, fm, kd, ns, nr, po, info⟩ : PD) = false := by simp only [kindB]; rw [if_neg (by omega), if_neg (by omega), if_neg (by omega), if_pos (by omega)]; simp
                rw [hk]
                clear hk 
                go_enter Tryz.func167, Tryz.ntmps167
                go_wp2
                go_ret
                exact ⟨rfl, (Fr.refl _ _).alloc _⟩
            · have e5 : (kd == 5) = false := by simp; omega
              have e5n : (kd != 5) = true := by simp; omega
              by_cases hc6 : kd = 6
              · have e6 : (kd == 6) = true := by simp; omega
                have e6n : (kd != 6) = false := by simp; omega
                cases rs with
                | true =>
                  by_cases ho : to % 2 = 1
                  · have eo : (to % 2 == 1) = true := by simp; omega
                    have hk : kindB (⟨to, fr, true, fm, kd, ns, nr, po, info⟩ : PD) = false := by simp only [kindB]; rw [if_neg (by omega), if_neg (by omega), if_neg (by omega), if_pos (by omega)]; simp [odd, ho]
                    rw [hk]
                    clear hk 
                    go_enter Tryz.func167, Tryz.ntmps167
                    go_wp2
                    go_ret
                    exact ⟨rfl, (Fr.refl _ _).alloc _⟩
                  · have eo : (to % 2 == 1) = false := by simp; omega
                    by_cases hl : (info.length : Int) = 4
                    · have el : ((info.length : Int) == 4) = true := by simp; omega
                      have hk : kindB (⟨to, fr, true, fm, kd, ns, nr, po, info⟩ : PD) = true := by simp only [kindB]; rw [if_neg (by omega), if_neg (by omega), if_neg (by omega), if_pos (by omega)]; simp [odd, ho, hl]
                      rw [hk]
                      clear hk 
                      go_enter Tryz.func167, Tryz.ntmps167
                      go_wp2
                      go_ret
                      exact ⟨rfl, (Fr.refl _ _).alloc _⟩
                    · have el : ((info.length : Int) == 4) = false := by simp; omega
                      have hk : kindB (⟨to, fr, true, fm, kd, ns, nr, po, info⟩ : PD) = false := by simp only [kindB]; rw [if_neg (by omega), if_neg (by omega), if_neg (by omega), if_pos (by omega)]; simp [odd, ho, hl]
                      rw [hk]
                      clear hk 
                      go_enter Tryz.func167, Tryz.ntmps167
                      go_wp2
                      go_ret
                      exact ⟨rfl, (Fr.refl _ _).alloc _⟩
                | false =>
                  have hk : kindB (⟨to, fr, false, fm, kd, ns, nr, po, info⟩ : PD) = false := by simp only [kindB]; rw [if_neg (by omega), if_neg (by omega), if_neg (by omega), if_pos (by omega)]; simp
                  rw [hk]
                  clear hk 
                  go_enter Tryz.func167, Tryz.ntmps167
                  go_wp2
                  go_ret
                  exact ⟨rfl, (Fr.refl _ _).alloc _⟩
              · have e6 : (kd == 6) = false := by simp; omega
                have e6n : (kd != 6) = true := by simp; omega
                by_cases hc7 : kd = 7
                · have e7 : (kd == 7) = true := by simp; omega
                  have e7n : (kd != 7) = false := by simp; omega
                  cases rs with
                  | true =>
                    by_cases ho : to % 2 = 1
                    · have eo : (to % 2 == 1) = true := by simp; omega
                      have hk : kindB (⟨to, fr, true, fm, kd, ns, nr, po, info⟩ : PD) = false := by simp only [kindB]; rw [if_neg (by omega), if_neg (by omega), if_neg (by omega), if_neg (by omega), if_pos (by omega)]; simp [odd, ho]
                      rw [hk]
                      clear hk 
                      go_enter Tryz.func167, Tryz.ntmps167
                      go_wp2
                      go_ret
                      exact ⟨rfl, (Fr.refl _ _).alloc _⟩
                    · have eo : (to % 2 == 1) = false := by simp; omega
                      by_cases hl : (info.length : Int) = 5
                      · have el : ((info.length : Int) == 5) = true := by simp; omega
                        have hk : kindB (⟨to, fr, true, fm, kd, ns, nr, po, info⟩ : PD) = true := by simp only [kindB]; rw [if_neg (by omega), if_neg (by omega), if_neg (by omega), if_neg (by omega), if_pos (by omega)]; simp [odd, ho, hl]
                        rw [hk]
                        clear hk 
                        go_enter Tryz.func167, Tryz.ntmps167
                        go_wp2
                        go_ret
                        exact ⟨rfl, (Fr.refl _ _).alloc _⟩
                      · have el : ((info.length : Int) == 5) = false := by simp; omega
                        have hk : kindB (⟨to, fr, true, fm, kd, ns, nr, po, info⟩ : PD) = false := by simp only [kindB]; rw [if_neg (by omega), if_neg (by omega), if_neg (by omega), if_neg (by omega), if_pos (by omega)]; simp [odd, ho, hl]
                        rw [hk]
                        clear hk 
                        go_enter Tryz.func167, Tryz.ntmps167
                        go_wp2
                        go_ret
                        exact ⟨rfl, (Fr.refl _ _).alloc _⟩
                  | false =>
                    have hk : kindB (⟨to, fr, false, fm, kd, ns, nr, po, info⟩ : PD) = false := by simp only [kindB]; rw [if_neg (by omega), if_neg (by omega), if_neg (by omega), if_neg (by omega), if_pos (by omega)]; simp
                    rw [hk]
                    clear hk 
                    go_enter Tryz.func167, Tryz.ntmps167
                    go_wp2
                    go_ret
                    exact ⟨rfl, (Fr.refl _ _).alloc _⟩
                · have e7 : (kd == 7) = false := by simp; omega
                  have e7n : (kd != 7) = true := by simp; omega
                  by_cases hc8 : kd = 8
                  · have e8 : (kd == 8) = true := by simp; omega
                    have e8n : (kd != 8) = false := by simp; omega
                    by_cases ho : to % 2 = 1
                    · have eo : (to % 2 == 1) = true := by simp; omega
                      have hk : kindB (⟨to, fr, rs, fm, kd, ns, nr, po, info⟩ : PD) = false := by simp only [kindB]; rw [if_neg (by omega), if_neg (by omega), if_neg (by omega), if_neg (by omega), if_neg (by omega), if_pos (by omega)]; simp [odd, ho]
                      rw [hk]
                      clear hk 
                      go_enter Tryz.func167, Tryz.ntmps167
                      go_wp2
                      go_ret
                      exact ⟨rfl, (Fr.refl _ _).alloc _⟩
                    · have eo : (to % 2 == 1) = false := by simp; omega
                      have hk : kindB (⟨to, fr, rs, fm, kd, ns, nr, po, info⟩ : PD) = true := by simp only [kindB]; rw [if_neg (by omega), if_neg (by omega), if_neg (by omega), if_neg (by omega), if_neg (by omega), if_pos (by omega)]; simp [odd, ho]
                      rw [hk]
                      clear hk 
                      go_enter Tryz.func167, Tryz.ntmps167
                      go_wp2
                      go_ret
                      exact ⟨rfl, (Fr.refl _ _).alloc _⟩
                  · have e8 : (kd == 8) = false := by simp; omega
                    have e8n : (kd != 8) = true := by simp; omega
                    by_cases hc9 : kd = 9
                    · have e9 : (kd == 9) = true := by simp; omega
                      have e9n : (kd != 9) = false := by simp; omega
                      by_cases ho : to % 2 = 1
                      · have eo : (to % 2 == 1) = true := by simp; omega
                        have hk : kindB (⟨to, fr, rs, fm, kd, ns, nr, po, info⟩ : PD) = false := by simp only [kindB]; rw [if_neg (by omega), if_neg (by omega), if_neg (by omega), if_neg (by omega), if_neg (by omega), if_pos (by omega)]; simp [odd, ho]
                        rw [hk]
                        clear hk 
                        go_enter Tryz.func167, Tryz.ntmps167
                        go_wp2
                        go_ret
                        exact ⟨rfl, (Fr.refl _ _).alloc _⟩
                      · have eo : (to % 2 == 1) = false := by simp; omega
                        have hk : kindB (⟨to, fr, rs, fm, kd, ns, nr, po, info⟩ : PD) = true := by simp only [kindB]; rw [if_neg (by omega), if_neg (by omega), if_neg (by omega), if_neg (by omega), if_neg (by omega), if_pos (by omega)]; simp [odd, ho]
                        rw [hk]
                        clear hk 
                        go_enter Tryz.func167, Tryz.ntmps167
                        go_wp2
                        go_ret
                        exact ⟨rfl, (Fr.refl _ _).alloc _⟩
                    · have e9 : (kd == 9) = false := by simp; omega
                      have e9n : (kd != 9) = true := by simp; omega
                      have hk : kindB (⟨to, fr, rs, fm, kd, ns, nr, po, info⟩ : PD) = false := by simp only [kindB]; rw [if_neg (by omega), if_neg (by omega), if_neg (by omega), if_neg (by omega), if_neg (by omega), if_neg (by omega)]
                      rw [hk]
                      clear hk 
                      go_enter Tryz.func167, Tryz.ntmps167
                      go_wp2
                      go_ret
                      exact ⟨rfl, (Fr.refl _ _).alloc _⟩
end Go.Proofs.YtneggoonlmmjeaaGreat
namespace Go.Proofs.YtneggoonlmmjeaaGreat
open Go.RowKit
set_option linter.unusedVariables false
set_option linter.unusedSimpArgs false
set_option maxRecDepth 100000

theorem within_iff {x m : Int} : within x m = true ↔ 0 ≤ x ∧ x ≤ m := by simp [within]
theorem odd_iff {x : Int} : odd x = true ↔ x % 2 = 1 := by simp [odd]

set_option maxHeartbeats 8000000 in
theorem pdu_May (d : PD) (s : Sl) (w : World) (hn : s.n = d.info.length) : Calls Tryz.prog 97 #[d.val s] w fun e w' => e = .returned (.bool (mayB d)) ∧ Fr [] w w' := by
  obtain ⟨to, fr, rs, fm, kd, ns, nr, po, info⟩ := d
  obtain ⟨A, n, c⟩ := s
  simp only at hn
  subst hn
  simp only [PD.val]
  cases w1 : within to 255 with
  | true =>
    have W1 := Lib.hid w1
    have w1b := within_iff.1 w1
    cases w2 : within fr 254 with
    | true =>
      have W2 := Lib.hid w2
      have w2b := within_iff.1 w2
      have bf := band1 w2b.1 (by omega)
      by_cases ho : fr % 2 = 1
      · have eo : (fr % 2 == 1) = true := by simp; omega
        have ofr : odd fr = true := by unfold odd; exact eo
        have HM := Lib.hid (show mayB (⟨to, fr, rs, fm, kd, ns, nr, po, info⟩ : PD) = false by simp [mayB, w1, w2, ofr])
        clear w1 w2
        try clear hf
        try clear hf1
        try clear hf2
        try clear hk
        try clear hn
        try clear hr
        try clear hl
        try clear ht
        go_enter Tryz.func97, Tryz.ntmps97
        go_wp2_with fail
        refine (pdu_within _ _ _).mono ?_
        rintro e w' ⟨rfl, rfl⟩
        rw [W1.out]
        go_wp2_with fail
        refine (pdu_within _ _ _).mono ?_
        rintro e w' ⟨rfl, rfl⟩
        rw [W2.out]
        go_wp2
        go_ret
        exact ⟨by rw [HM.out]; rfl, (Fr.refl _ _).alloc _⟩
      · have eo : (fr % 2 == 1) = false := by simp; omega
        have ofr : odd fr = false := by unfold odd; exact eo
        cases w4 : within ns 127 with
        | true =>
          have W4 := Lib.hid w4
          have w4b := within_iff.1 w4
          cases w5 : within nr 127 with
          | true =>
            have W5 := Lib.hid w5
            have w5b := within_iff.1 w5
            by_cases hln : (info.length : Int) ≤ 1040
            · have dl : decide (1040 < (info.length : Int)) = false := by simp; omega
              have bt := band1 w1b.1 (by omega)
              by_cases hf : fm = 0
              · have ef : (fm == 0) = true := by simp; omega
                have efn : (fm != 0) = false := by simp; omega
                by_cases hk : kd = 0
                · have ek : (kd == 0) = true := by simp; omega
                  have ekn : (kd != 0) = false := by simp; omega
                  by_cases ht : to % 2 = 0
                  · have et : (to % 2 == 0) = true := by simp; omega
                    have eod : odd to = false := by unfold odd; simp; omega
                    have HM := Lib.hid (show mayB (⟨to, fr, rs, fm, kd, ns, nr, po, info⟩ : PD) = true by simp [mayB, w1, w2, ofr, w4, w5, hln, hf, ek, eod])
                    clear w1 w2 w4 w5
                    try clear hf
                    try clear hf1
                    try clear hf2
                    try clear hk
                    try clear hn
                    try clear hr
                    try clear hl
                    try clear ht
                    go_enter Tryz.func97, Tryz.ntmps97
                    go_wp2_with fail
                    refine (pdu_within _ _ _).mono ?_
                    rintro e w' ⟨rfl, rfl⟩
                    rw [W1.out]
                    go_wp2_with fail
                    refine (pdu_within _ _ _).mono ?_
                    rintro e w' ⟨rfl, rfl⟩
                    rw [W2.out]
                    go_wp2_with fail
                    refine (pdu_within _ _ _).mono ?_
                    rintro e w' ⟨rfl, rfl⟩
                    rw [W4.out]
                    go_wp2_with fail
                    refine (pdu_within _ _ _).mono ?_
                    rintro e w' ⟨rfl, rfl⟩
                    rw [W5.out]
                    go_wp2
                    go_ret
                    exact ⟨by rw [HM.out]; rfl, (Fr.refl _ _).alloc _⟩
                  · have et : (to % 2 == 0) = false := by simp; omega
                    have eod : odd to = true := by unfold odd; simp; omega
                    have HM := Lib.hid (show mayB (⟨to, fr, rs, fm, kd, ns, nr, po, info⟩ : PD) = false by simp [mayB, w1, w2, ofr, w4, w5, hln, hf, ek, eod])
                    clear w1 w2 w4 w5
                    try clear hf
                    try clear hf1
                    try clear hf2
                    try clear hk
                    try clear hn
                    try clear hr
                    try clear hl
                    try clear ht
                    go_enter Tryz.func97, Tryz.ntmps97
                    go_wp2_with fail
                    refine (pdu_within _ _ _).mono ?_
                    rintro e w' ⟨rfl, rfl⟩
                    rw [W1.out]
                    go_wp2_with fail
                    refine (pdu_within _ _ _).mono ?_
                    rintro e w' ⟨rfl, rfl⟩
                    rw [W2.out]
                    go_wp2_with fail
                    refine (pdu_within _ _ _).mono ?_
                    rintro e w' ⟨rfl, rfl⟩
                    rw [W4.out]
                    go_wp2_with fail
                    refine (pdu_within _ _ _).mono ?_
                    rintro e w' ⟨rfl, rfl⟩
                    rw [W5.out]
                    go_wp2
                    go_ret
                    exact ⟨by rw [HM.out]; rfl, (Fr.refl _ _).alloc _⟩
                · have ek : (kd == 0) = false := by simp; omega
                  have ekn : (kd != 0) = true := by simp; omega
                  have HM := Lib.hid (show mayB (⟨to, fr, rs, fm, kd, ns, nr, po, info⟩ : PD) = false by simp [mayB, w1, w2, ofr, w4, w5, hln, hf, ek])
                  clear w1 w2 w4 w5
                  try clear hf
                  try clear hf1
                  try clear hf2
                  try clear hk
                  try clear hn
                  try clear hr
                  try clear hl
                  try clear ht
                  go_enter Tryz.func97, Tryz.ntmps97
                  go_wp2_with fail
                  refine (pdu_within _ _ _).mono ?_
                  rintro e w' ⟨rfl, rfl⟩
                  rw [W1.out]
                  go_wp2_with fail
                  refine (pdu_within _ _ _).mono ?_
                  rintro e w' ⟨rfl, rfl⟩
                  rw [W2.out]
                  go_wp2_with fail
                  refine (pdu_within _ _ _).mono ?_
                  rintro e w' ⟨rfl, rfl⟩
                  rw [W4.out]
                  go_wp2_with fail
                  refine (pdu_within _ _ _).mono ?_
                  rintro e w' ⟨rfl, rfl⟩
                  rw [W5.out]
                  go_wp2
                  go_ret
                  exact ⟨by rw [HM.out]; rfl, (Fr.refl _ _).alloc _⟩
              · have ef : (fm == 0) = false := by simp; omega
                have efn : (fm != 0) = true := by simp; omega
                by_cases hf1 : fm = 1
                · have ef1 : (fm == 1) = true := by simp; omega
                  have ef1n : (fm != 1) = false := by simp; omega
                  cases wk : within kd 2 with
                  | true =>
                    have WK := Lib.hid wk
                    have wkb := within_iff.1 wk
                    by_cases hn : ns = 0
                    · have en : (ns == 0) = true := by simp; omega
                      have enn : (ns != 0) = false := by simp; omega
                      by_cases hl : (info.length : Int) = 0
                      · have el : ((info.length : Int) == 0) = true := by rw [beq_iff_eq]; exact hl
                        by_cases ht : to % 2 = 0
                        · have et : (to % 2 == 0) = true := by simp; omega
                          have eod : odd to = false := by unfold odd; simp; omega
                          have HM := Lib.hid (show mayB (⟨to, fr, rs, fm, kd, ns, nr, po, info⟩ : PD) = true by simp [mayB, w1, w2, ofr, w4, w5, hln, hf, hf1, wk, en, el, eod])
                          clear w1 w2 w4 w5 wk
                          try clear hf
                          try clear hf1
                          try clear hf2
                          try clear hk
                          try clear hn
                          try clear hr
                          try clear hl
                          try clear ht
                          go_enter Tryz.func97, Tryz.ntmps97
                          go_wp2_with fail
                          refine (pdu_within _ _ _).mono ?_
                          rintro e w' ⟨rfl, rfl⟩
                          rw [W1.out]
                          go_wp2_with fail
                          refine (pdu_within _ _ _).mono ?_
                          rintro e w' ⟨rfl, rfl⟩
                          rw [W2.out]
                          go_wp2_with fail
                          refine (pdu_within _ _ _).mono ?_
                          rintro e w' ⟨rfl, rfl⟩
                          rw [W4.out]
                          go_wp2_with fail
                          refine (pdu_within _ _ _).mono ?_
                          rintro e w' ⟨rfl, rfl⟩
                          rw [W5.out]
                          go_wp2_with fail
                          refine (pdu_within _ _ _).mono ?_
                          rintro e w' ⟨rfl, rfl⟩
                          rw [WK.out]
                          go_wp2
                          go_ret
                          exact ⟨by rw [HM.out]; rfl, (Fr.refl _ _).alloc _⟩
                        · have et : (to % 2 == 0) = false := by simp; omega
                          have eod : odd to = true := by unfold odd; simp; omega
                          have HM := Lib.hid (show mayB (⟨to, fr, rs, fm, kd, ns, nr, po, info⟩ : PD) = false by simp [mayB, w1, w2, ofr, w4, w5, hln, hf, hf1, wk, en, el, eod])
                          clear w1 w2 w4 w5 wk
                          try clear hf
                          try clear hf1
                          try clear hf2
                          try clear hk
                          try clear hn
                          try clear hr
                          try clear hl
                          try clear ht
                          go_enter Tryz.func97, Tryz.ntmps97
                          go_wp2_with fail
                          refine (pdu_within _ _ _).mono ?_
                          rintro e w' ⟨rfl, rfl⟩
                          rw [W1.out]
                          go_wp2_with fail
                          refine (pdu_within _ _ _).mono ?_
                          rintro e w' ⟨rfl, rfl⟩
                          rw [W2.out]
                          go_wp2_with fail
                          refine (pdu_within _ _ _).mono ?_
                          rintro e w' ⟨rfl, rfl⟩
                          rw [W4.out]
                          go_wp2_with fail
                          refine (pdu_within _ _ _).mono ?_
                          rintro e w' ⟨rfl, rfl⟩
                          rw [W5.out]
                          go_wp2_with fail
                          refine (pdu_within _ _ _).mono ?_
                          rintro e w' ⟨rfl, rfl⟩
                          rw [WK.out]
                          go_wp2
                          go_ret
                          exact ⟨by rw [HM.out]; rfl, (Fr.refl _ _).alloc _⟩
                      · have el : ((info.length : Int) == 0) = false := by rw [beq_eq_false_iff_ne]; exact hl
                        have HM := Lib.hid (show mayB (⟨to, fr, rs, fm, kd, ns, nr, po, info⟩ : PD) = false by simp [mayB, w1, w2, ofr, w4, w5, hln, hf, hf1, wk, en, el])
                        clear w1 w2 w4 w5 wk
                        try clear hf
                        try clear hf1
                        try clear hf2
                        try clear hk
                        try clear hn
                        try clear hr
                        try clear hl
                        try clear ht
                        go_enter Tryz.func97, Tryz.ntmps97
                        go_wp2_with fail
                        refine (pdu_within _ _ _).mono ?_
                        rintro e w' ⟨rfl, rfl⟩
                        rw [W1.out]
                        go_wp2_with fail
                        refine (pdu_within _ _ _).mono ?_
                        rintro e w' ⟨rfl, rfl⟩
                        rw [W2.out]
                        go_wp2_with fail
                        refine (pdu_within _ _ _).mono ?_
                        rintro e w' ⟨rfl, rfl⟩
                        rw [W4.out]
                        go_wp2_with fail
                        refine (pdu_within _ _ _).mono ?_
                        rintro e w' ⟨rfl, rfl⟩
                        rw [W5.out]
                        go_wp2_with fail
                        refine (pdu_within _ _ _).mono ?_
                        rintro e w' ⟨rfl, rfl⟩
                        rw [WK.out]
                        go_wp2
                        go_ret
                        exact ⟨by rw [HM.out]; rfl, (Fr.refl _ _).alloc _⟩
                    · have en : (ns == 0) = false := by simp; omega
                      have enn : (ns != 0) = true := by simp; omega
                      have HM := Lib.hid (show mayB (⟨to, fr, rs, fm, kd, ns, nr, po, info⟩ : PD) = false by simp [mayB, w1, w2, ofr, w4, w5, hln, hf, hf1, wk, en])
                      clear w1 w2 w4 w5 wk
                      try clear hf
                      try clear hf1
                      try clear hf2
                      try clear hk
                      try clear hn
                      try clear hr
                      try clear hl
                      try clear ht
                      go_enter Tryz.func97, Tryz.ntmps97
                      go_wp2_with fail
                      refine (pdu_within _ _ _).mono ?_
                      rintro e w' ⟨rfl, rfl⟩
                      rw [W1.out]
                      go_wp2_with fail
                      refine (pdu_within _ _ _).mono ?_
                      rintro e w' ⟨rfl, rfl⟩
                      rw [W2.out]
                      go_wp2_with fail
                      refine (pdu_within _ _ _).mono ?_
                      rintro e w' ⟨rfl, rfl⟩
                      rw [W4.out]
                      go_wp2_with fail
                      refine (pdu_within _ _ _).mono ?_
                      rintro e w' ⟨rfl, rfl⟩
                      rw [W5.out]
                      go_wp2_with fail
                      refine (pdu_within _ _ _).mono ?_
                      rintro e w' ⟨rfl, rfl⟩
                      rw [WK.out]
                      go_wp2
                      go_ret
                      exact ⟨by rw [HM.out]; rfl, (Fr.refl _ _).alloc _⟩
                  | false =>
                    have WK := Lib.hid wk
                    have HM := Lib.hid (show mayB (⟨to, fr, rs, fm, kd, ns, nr, po, info⟩ : PD) = false by simp [mayB, w1, w2, ofr, w4, w5, hln, hf, hf1, wk])
                    clear w1 w2 w4 w5 wk
                    try clear hf
                    try clear hf1
                    try clear hf2
                    try clear hk
                    try clear hn
                    try clear hr
                    try clear hl
                    try clear ht
                    go_enter Tryz.func97, Tryz.ntmps97
                    go_wp2_with fail
                    refine (pdu_within _ _ _).mono ?_
                    rintro e w' ⟨rfl, rfl⟩
                    rw [W1.out]
                    go_wp2_with fail
                    refine (pdu_within _ _ _).mono ?_
                    rintro e w' ⟨rfl, rfl⟩
                    rw [W2.out]
                    go_wp2_with fail
                    refine (pdu_within _ _ _).mono ?_
                    rintro e w' ⟨rfl, rfl⟩
                    rw [W4.out]
                    go_wp2_with fail
                    refine (pdu_within _ _ _).mono ?_
                    rintro e w' ⟨rfl, rfl⟩
                    rw [W5.out]
                    go_wp2_with fail
                    refine (pdu_within _ _ _).mono ?_
                    rintro e w' ⟨rfl, rfl⟩
                    rw [WK.out]
                    go_wp2
                    go_ret
                    exact ⟨by rw [HM.out]; rfl, (Fr.refl _ _).alloc _⟩
                · have ef1 : (fm == 1) = false := by simp; omega
                  have ef1n : (fm != 1) = true := by simp; omega
                  by_cases hf2 : fm = 2
                  · have ef2 : (fm == 2) = true := by simp; omega
                    have ef2n : (fm != 2) = false := by simp; omega
                    by_cases hn : ns = 0
                    · have en : (ns == 0) = true := by simp; omega
                      have enn : (ns != 0) = false := by simp; omega
                      by_cases hr : nr = 0
                      · have er : (nr == 0) = true := by simp; omega
                        have ern : (nr != 0) = false := by simp; omega
                        have hto := w1b
                        cases hk : kindB (⟨to, fr, rs, fm, kd, ns, nr, po, info⟩ : PD) with
                        | true =>
                          have HK := Lib.hid hk
                          have HM := Lib.hid (show mayB (⟨to, fr, rs, fm, kd, ns, nr, po, info⟩ : PD) = true by unfold mayB; dsimp only; rw [if_neg hf, if_neg hf1, if_pos hf2, hk, en, er]; simp [w1, w2, ofr, w4, w5, hln])
                          clear w1 w2 w4 w5 hk
                          try clear hf
                          try clear hf1
                          try clear hf2
                          try clear hk
                          try clear hn
                          try clear hr
                          try clear hl
                          try clear ht
                          go_enter Tryz.func97, Tryz.ntmps97
                          go_wp2_with fail
                          refine (pdu_within _ _ _).mono ?_
                          rintro e w' ⟨rfl, rfl⟩
                          rw [W1.out]
                          go_wp2_with fail
                          refine (pdu_within _ _ _).mono ?_
                          rintro e w' ⟨rfl, rfl⟩
                          rw [W2.out]
                          go_wp2_with fail
                          refine (pdu_within _ _ _).mono ?_
                          rintro e w' ⟨rfl, rfl⟩
                          rw [W4.out]
                          go_wp2_with fail
                          refine (pdu_within _ _ _).mono ?_
                          rintro e w' ⟨rfl, rfl⟩
                          rw [W5.out]
                          go_wp2_with fail
                          refine (pdu_kind (⟨to, fr, rs, fm, kd, ns, nr, po, info⟩ : PD) ⟨A, info.length, c⟩ _ rfl hto.1 hto.2).mono ?_
                          rintro e w' ⟨rfl, f1⟩
                          rw [HK.out]
                          go_wp2
                          go_ret
                          exact ⟨by rw [HM.out]; rfl, ((Fr.refl _ _).alloc _).tr f1⟩
                        | false =>
                          have HK := Lib.hid hk
                          have HM := Lib.hid (show mayB (⟨to, fr, rs, fm, kd, ns, nr, po, info⟩ : PD) = false by unfold mayB; dsimp only; rw [if_neg hf, if_neg hf1, if_pos hf2, hk, en, er]; simp [w1, w2, ofr, w4, w5, hln])
                          clear w1 w2 w4 w5 hk
                          try clear hf
                          try clear hf1
                          try clear hf2
                          try clear hk
                          try clear hn
                          try clear hr
                          try clear hl
                          try clear ht
                          go_enter Tryz.func97, Tryz.ntmps97
                          go_wp2_with fail
                          refine (pdu_within _ _ _).mono ?_
                          rintro e w' ⟨rfl, rfl⟩
                          rw [W1.out]
                          go_wp2_with fail
                          refine (pdu_within _ _ _).mono ?_
                          rintro e w' ⟨rfl, rfl⟩
                          rw [W2.out]
                          go_wp2_with fail
                          refine (pdu_within _ _ _).mono ?_
                          rintro e w' ⟨rfl, rfl⟩
                          rw [W4.out]
                          go_wp2_with fail
                          refine (pdu_within _ _ _).mono ?_
                          rintro e w' ⟨rfl, rfl⟩
                          rw [W5.out]
                          go_wp2_with fail
                          refine (pdu_kind (⟨to, fr, rs, fm, kd, ns, nr, po, info⟩ : PD) ⟨A, info.length, c⟩ _ rfl hto.1 hto.2).mono ?_
                          rintro e w' ⟨rfl, f1⟩
                          rw [HK.out]
                          go_wp2
                          go_ret
                          exact ⟨by rw [HM.out]; rfl, ((Fr.refl _ _).alloc _).tr f1⟩
                      · have er : (nr == 0) = false := by simp; omega
                        have ern : (nr != 0) = true := by simp; omega
                        have HM := Lib.hid (show mayB (⟨to, fr, rs, fm, kd, ns, nr, po, info⟩ : PD) = false by simp [mayB, w1, w2, ofr, w4, w5, hln, hf, hf1, hf2, en, er])
                        clear w1 w2 w4 w5
                        try clear hf
                        try clear hf1
                        try clear hf2
                        try clear hk
                        try clear hn
                        try clear hr
                        try clear hl
                        try clear ht
                        go_enter Tryz.func97, Tryz.ntmps97
                        go_wp2_with fail
                        refine (pdu_within _ _ _).mono ?_
                        rintro e w' ⟨rfl, rfl⟩
                        rw [W1.out]
                        go_wp2_with fail
                        refine (pdu_within _ _ _).mono ?_
                        rintro e w' ⟨rfl, rfl⟩
                        rw [W2.out]
                        go_wp2_with fail
                        refine (pdu_within _ _ _).mono ?_
                        rintro e w' ⟨rfl, rfl⟩
                        rw [W4.out]
                        go_wp2_with fail
                        refine (pdu_within _ _ _).mono ?_
                        rintro e w' ⟨rfl, rfl⟩
                        rw [W5.out]
                        go_wp2
                        go_ret
                        exact ⟨by rw [HM.out]; rfl, (Fr.refl _ _).alloc _⟩
                    · have en : (ns == 0) = false := by simp; omega
                      have enn : (ns != 0) = true := by simp; omega
                      have HM := Lib.hid (show mayB (⟨to, fr, rs, fm, kd, ns, nr, po, info⟩ : PD) = false by simp [mayB, w1, w2, ofr, w4, w5, hln, hf, hf1, hf2, en])
                      clear w1 w2 w4 w5
                      try clear hf
                      try clear hf1
                      try clear hf2
                      try clear hk
                      try clear hn
                      try clear hr
                      try clear hl
                      try clear ht
                      go_enter Tryz.func97, Tryz.ntmps97
                      go_wp2_with fail
                      refine (pdu_within _ _ _).mono ?_
                      rintro e w' ⟨rfl, rfl⟩
                      rw [W1.out]
                      go_wp2_with fail
                      refine (pdu_within _ _ _).mono ?_
                      rintro e w' ⟨rfl, rfl⟩
                      rw [W2.out]
                      go_wp2_with fail
                      refine (pdu_within _ _ _).mono ?_
                      rintro e w' ⟨rfl, rfl⟩
                      rw [W4.out]
                      go_wp2_with fail
                      refine (pdu_within _ _ _).mono ?_
                      rintro e w' ⟨rfl, rfl⟩
                      rw [W5.out]
                      go_wp2
                      go_ret
                      exact ⟨by rw [HM.out]; rfl, (Fr.refl _ _).alloc _⟩
                  · have ef2 : (fm == 2) = false := by simp; omega
                    have ef2n : (fm != 2) = true := by simp; omega
                    have HM := Lib.hid (show mayB (⟨to, fr, rs, fm, kd, ns, nr, po, info⟩ : PD) = false by simp [mayB, w1, w2, ofr, w4, w5, hln, hf, hf1, hf2])
                    clear w1 w2 w4 w5
                    try clear hf
                    try clear hf1
                    try clear hf2
                    try clear hk
                    try clear hn
                    try clear hr
                    try clear hl
                    try clear ht
                    go_enter Tryz.func97, Tryz.ntmps97
                    go_wp2_with fail
                    refine (pdu_within _ _ _).mono ?_
                    rintro e w' ⟨rfl, rfl⟩
                    rw [W1.out]
                    go_wp2_with fail
                    refine (pdu_within _ _ _).mono ?_
                    rintro e w' ⟨rfl, rfl⟩
                    rw [W2.out]
                    go_wp2_with fail
                    refine (pdu_within _ _ _).mono ?_
                    rintro e w' ⟨rfl, rfl⟩
                    rw [W4.out]
                    go_wp2_with fail
                    refine (pdu_within _ _ _).mono ?_
                    rintro e w' ⟨rfl, rfl⟩
                    rw [W5.out]
                    go_wp2
                    go_ret
                    exact ⟨by rw [HM.out]; rfl, (Fr.refl _ _).alloc _⟩
            · have dl : decide (1040 < (info.length : Int)) = true := by simp; omega
              have HM := Lib.hid (show mayB (⟨to, fr, rs, fm, kd, ns, nr, po, info⟩ : PD) = false by simp [mayB, w1, w2, ofr, w4, w5, hln])
              clear w1 w2 w4 w5
              try clear hf
              try clear hf1
              try clear hf2
              try clear hk
              try clear hn
              try clear hr
              try clear hl
              try clear ht
              go_enter Tryz.func97, Tryz.ntmps97
              go_wp2_with fail
              refine (pdu_within _ _ _).mono ?_
              rintro e w' ⟨rfl, rfl⟩
              rw [W1.out]
              go_wp2_with fail
              refine (pdu_within _ _ _).mono ?_
              rintro e w' ⟨rfl, rfl⟩
              rw [W2.out]
              go_wp2_with fail
              refine (pdu_within _ _ _).mono ?_
              rintro e w' ⟨rfl, rfl⟩
              rw [W4.out]
              go_wp2_with fail
              refine (pdu_within _ _ _).mono ?_
              rintro e w' ⟨rfl, rfl⟩
              rw [W5.out]
              go_wp2
              go_ret
              exact ⟨by rw [HM.out]; rfl, (Fr.refl _ _).alloc _⟩
          | false =>
            have W5 := Lib.hid w5
            have HM := Lib.hid (show mayB (⟨to, fr, rs, fm, kd, ns, nr, po, info⟩ : PD) = false by simp [mayB, w1, w2, ofr, w4, w5])
            clear w1 w2 w4 w5
            try clear hf
            try clear hf1
            try clear hf2
            try clear hk
            try clear hn
            try clear hr
            try clear hl
            try clear ht
            go_enter Tryz.func97, Tryz.ntmps97
            go_wp2_with fail
            refine (pdu_within _ _ _).mono ?_
            rintro e w' ⟨rfl, rfl⟩
            rw [W1.out]
            go_wp2_with fail
            refine (pdu_within _ _ _).mono ?_
            rintro e w' ⟨rfl, rfl⟩
            rw [W2.out]
            go_wp2_with fail
            refine (pdu_within _ _ _).mono ?_
            rintro e w' ⟨rfl, rfl⟩
            rw [W4.out]
            go_wp2_with fail
            refine (pdu_within _ _ _).mono ?_
            rintro e w' ⟨rfl, rfl⟩
            rw [W5.out]
            go_wp2
            go_ret
            exact ⟨by rw [HM.out]; rfl, (Fr.refl _ _).alloc _⟩
        | false =>
          have W4 := Lib.hid w4
          have HM := Lib.hid (show mayB (⟨to, fr, rs, fm, kd, ns, nr, po, info⟩ : PD) = false by simp [mayB, w1, w2, ofr, w4])
          clear w1 w2 w4
          try clear hf
          try clear hf1
          try clear hf2
          try clear hk
          try clear hn
          try clear hr
          try clear hl
          try clear ht
          go_enter Tryz.func97, Tryz.ntmps97
          go_wp2_with fail
          refine (pdu_within _ _ _).mono ?_
          rintro e w' ⟨rfl, rfl⟩
          rw [W1.out]
          go_wp2_with fail
          refine (pdu_within _ _ _).mono ?_
          rintro e w' ⟨rfl, rfl⟩
          rw [W2.out]
          go_wp2_with fail
          refine (pdu_within _ _ _).mono ?_
          rintro e w' ⟨rfl, rfl⟩
          rw [W4.out]
          go_wp2
          go_ret
          exact ⟨by rw [HM.out]; rfl, (Fr.refl _ _).alloc _⟩
    | false =>
      have W2 := Lib.hid w2
      have HM := Lib.hid (show mayB (⟨to, fr, rs, fm, kd, ns, nr, po, info⟩ : PD) = false by simp [mayB, w1, w2])
      clear w1 w2
      try clear hf
      try clear hf1
      try clear hf2
      try clear hk
      try clear hn
      try clear hr
      try clear hl
      try clear ht
      go_enter Tryz.func97, Tryz.ntmps97
      go_wp2_with fail
      refine (pdu_within _ _ _).mono ?_
      rintro e w' ⟨rfl, rfl⟩
      rw [W1.out]
      go_wp2_with fail
      refine (pdu_within _ _ _).mono ?_
      rintro e w' ⟨rfl, rfl⟩
      rw [W2.out]
      go_wp2
      go_ret
      exact ⟨by rw [HM.out]; rfl, (Fr.refl _ _).alloc _⟩
  | false =>
    have W1 := Lib.hid w1
    have HM := Lib.hid (show mayB (⟨to, fr, rs, fm, kd, ns, nr, po, info⟩ : PD) = false by simp [mayB, w1])
    clear w1
    try clear hf
    try clear hf1
    try clear hf2
    try clear hk
    try clear hn
    try clear hr
    try clear hl
    try clear ht
    go_enter Tryz.func97, Tryz.ntmps97
    go_wp2_with fail
    refine (pdu_within _ _ _).mono ?_
    rintro e w' ⟨rfl, rfl⟩
    rw [W1.out]
    go_wp2
    go_ret
    exact ⟨by rw [HM.out]; rfl, (Fr.refl _ _).alloc _⟩
end Go.Proofs.YtneggoonlmmjeaaGreat
namespace Go.Proofs.YtneggoonlmmjeaaGreat
open Go.RowKit
set_option linter.unusedVariables false
set_option linter.unusedSimpArgs false
set_option maxRecDepth 100000

theorem flat_get {α β : Type} (f : α → List β) (n : Nat) (hf : ∀ x, (f x).length = n) : ∀ (l : List α) (i j : Nat) (hi : i < l.length), j < n → (l.flatMap f)[i * n + j]? = (f l[i])[j]?
  | x :: l, 0, j, _, hj => by
    rw [List.flatMap_cons, List.getElem?_append_left (by rw [hf]; omega)]; simp
  | x :: l, i + 1, j, hi, hj => by
    rw [List.flatMap_cons, List.getElem?_append_right (by rw [hf, Nat.succ_mul]; omega), hf, show (i + 1) * n + j - n = i * n + j by rw [Nat.succ_mul]; omega]
    simpa using flat_get f n hf l i j (by simpa using hi) hj
theorem own_n {w : World} {B : Nat} {e : TypeId} {z n : Nat} {s : Sl} {xs : List Value} (h : w.ownsRow B e z s.v n xs) : s.n = n := by
  rcases h.2 with ⟨e, h0⟩ | ⟨g, cap, cur, e, _⟩
  · cases s; simp [Sl.v] at e; simp [e]; omega
  · cases s; simp [Sl.v] at e; simp [e]
theorem own_at {w : World} {B : Nat} {e : TypeId} {z n : Nat} {s : Sl} {xs : List Value} (h : w.ownsRow B e z s.v n xs) (hn : 0 < n) : ∃ b, s.A = some ⟨b, 0, none⟩ ∧ ∀ i v, xs[i]? = some v → w.cell? ⟨b, i, none⟩ = some v := by
  have hc := @World.ownsRow.cells _ _ _ _ _ _ _ h
  rcases h.2 with ⟨e, h0⟩ | ⟨g, cap, cur, e, _⟩
  · omega
  · cases s
    simp only [Sl.v, Value.slice.injEq] at e
    obtain ⟨rfl, rfl, rfl⟩ := e
    refine ⟨g, rfl, fun i v hv => ?_⟩
    have := hc (g := g) rfl i v hv
    rw [Go.WideShapes.add_plain] at this
    simpa using this
theorem own_low {w : World} {B B' : Nat} {e : TypeId} {size n : Nat} {v : Value} {xs : List Value} (h : w.ownsRow B e size v n xs) (hb : B' ≤ B) : w.ownsRow B' e size v n xs :=
  ⟨h.1, h.2.imp id fun ⟨g, cap, cur, e, hg, r⟩ => ⟨g, cap, cur, e, Nat.le_trans hb hg, r⟩⟩
theorem Ints.n_ {k : IntKind} {w : World} {s : Sl} {l : List Int} (h : Ints k w s.v l) : s.n = l.length := by
  rcases h with ⟨e, rfl⟩ | ⟨A, cap, e, _⟩
  · cases s; simp [Sl.v] at e; simp [e]
  · cases s; simp [Sl.v] at e; simp [e]
def All2 {α β : Type} (r : β → α → Prop) : List β → List α → Prop
  | [], [] => True
  | x :: xs, y :: ys => r x y ∧ All2 r xs ys
  | _, _ => False
theorem All2.imp {α β : Type} {r q : β → α → Prop} (h : ∀ x y, r x y → q x y) : ∀ {xs : List β} {ys : List α}, All2 r xs ys → All2 q xs ys
  | [], [], _ => trivial
  | _ :: _, _ :: _, ⟨h1, h2⟩ => ⟨h _ _ h1, h2.imp h⟩
theorem All2.snoc {α β : Type} {r : β → α → Prop} {x : β} {y : α} (h0 : r x y) : ∀ {xs : List β} {ys : List α}, All2 r xs ys → All2 r (xs ++ [x]) (ys ++ [y])
  | [], [], _ => ⟨h0, trivial⟩
  | _ :: _, _ :: _, ⟨h1, h2⟩ => ⟨h1, h2.snoc h0⟩
theorem All2.len {α β : Type} {r : β → α → Prop} : ∀ {xs : List β} {ys : List α}, All2 r xs ys → xs.length = ys.length
  | [], [], _ => rfl
  | _ :: _, _ :: _, ⟨_, h2⟩ => by simp [h2.len]
theorem All2.get {α β : Type} {r : β → α → Prop} : ∀ {xs : List β} {ys : List α}, All2 r xs ys → ∀ i (hx : i < xs.length) (hy : i < ys.length), r xs[i] ys[i]
  | _ :: _, _ :: _, ⟨h1, _⟩, 0, _, _ => h1
  | _ :: _, _ :: _, ⟨_, h2⟩, i + 1, hx, hy => by simpa using h2.get i (by simpa using hx) (by simpa using hy)
def RowG {α : Type} (T : TypeId) (z : Nat) (rep : World → List Value → α → Prop) (B : Nat) (w : World) (s : Sl) (l : List α) : Prop :=
  ∃ xs : List (List Value), w.ownsRow B T z s.v l.length xs.flatten ∧ All2 (rep w) xs l ∧ ∀ x ∈ xs, x.length = z
theorem RowG.nil {α : Type} {T : TypeId} {z : Nat} {rep : World → List Value → α → Prop} {B : Nat} {w : World} : RowG T z rep B w Sl.nil [] := ⟨[], World.ownsRow_nil _ _ _ _, trivial, by simp⟩
theorem RowG.fr {α : Type} {T : TypeId} {z : Nat} {rep : World → List Value → α → Prop} {B : Nat} {w w' : World} {s : Sl} {l : List α} (hr : ∀ cs d, rep w cs d → rep w' cs d) (h : RowG T z rep B w s l) (f : Fr [] w w') : RowG T z rep B w' s l := by
  obtain ⟨xs, h1, h2, h3⟩ := h
  exact ⟨xs, own_fr h1 f, h2.imp fun _ _ h => hr _ _ h, h3⟩
theorem RowG.blk {α : Type} {T : TypeId} {z : Nat} {rep : World → List Value → α → Prop} {B : Nat} {w : World} {s : Sl} {l : List α} (h : RowG T z rep B w s l) : ∀ b ∈ s.blk, B ≤ b ∧ ∃ cs, w.heap[b]? = some (.cells cs T (0, 0)) := by
  obtain ⟨xs, h1, _⟩ := h; exact own_blk h1
theorem RowG.n {α : Type} {T : TypeId} {z : Nat} {rep : World → List Value → α → Prop} {B : Nat} {w : World} {s : Sl} {l : List α} (h : RowG T z rep B w s l) : s.n = l.length := by
  obtain ⟨xs, h1, _⟩ := h; exact own_n h1
def repP (N : Nat) (w : World) (cs : List Value) (d : PD) : Prop := ∃ s : Sl, cs = (d.arr s).toList ∧ Bts N w s d.info
def PRow (N B : Nat) (s : Sl) (l : List PD) (w : World) : Prop := RowG 52 9 (repP N) B w s l
theorem PRow.fr {N B : Nat} {s : Sl} {l : List PD} {w w' : World} (f : Fr [] w w') (h : PRow N B s l w) : PRow N B s l w' := RowG.fr (fun _ _ ⟨s, e, hb⟩ => ⟨s, e, hb.fr f⟩) h f
theorem PRow.off {N B : Nat} {s : Sl} {l : List PD} {w : World} (h : PRow N B s l w) (hN : N ≤ B) : ∀ x ∈ s.blk, N ≤ x ∧ ∀ cs fz, w.heap[x]? ≠ some (.cells cs 5 fz) := by
  intro x hx
  obtain ⟨h1, cs, h2⟩ := RowG.blk h x hx
  exact ⟨by omega, fun cs' fz e => by rw [h2] at e; cases e⟩
theorem RowG.push {α : Type} {T : TypeId} {z : Nat} {rep : World → List Value → α → Prop} {B : Nat} {w w' : World} {s' : Sl} {l : List α} {xs : List (List Value)} {cs : List Value} {d : α}
    (h2 : All2 (rep w) xs l) (h3 : ∀ x ∈ xs, x.length = z) (hown : w'.ownsRow B T z s'.v (l.length + 1) (xs.flatten ++ cs)) (hr : ∀ cs d, rep w cs d → rep w' cs d) (hc : cs.length = z) (hd : rep w' cs d) : RowG T z rep B w' s' (l ++ [d]) := by
  refine ⟨xs ++ [cs], by simpa using hown, ?_, fun x hx => ?_⟩
  · exact (h2.imp fun _ _ h => hr _ _ h).snoc hd
  · rcases List.mem_append.1 hx with hx | hx
    · exact h3 x hx
    · simp at hx; subst hx; exact hc
theorem RowG.frL {α : Type} {T : TypeId} {z : Nat} {rep : World → List Value → α → Prop} {B : Nat} {w w' : World} {s : Sl} {l : List α} {L : List Nat} (h : RowG T z rep B w s l) (f : Fr L w w') (hn : ∀ b ∈ s.blk, b ∉ L) (hr : ∀ cs d, rep w cs d → rep w' cs d) : RowG T z rep B w' s l := by
  obtain ⟨xs, h1, h2, h3⟩ := h
  refine ⟨xs, ⟨h1.1, h1.2.imp id fun ⟨g, cap, cur, e, hg, hb, r⟩ => ⟨g, cap, cur, e, hg, f.keeps hb (hn g (blk_mem e)), r⟩⟩, h2.imp fun _ _ h => hr _ _ h, h3⟩
theorem PRow.frL {N B : Nat} {s : Sl} {l : List PD} {w w' : World} {L : List Nat} (h : PRow N B s l w) (f : Fr L w w') (hL : ∀ x ∈ L, N ≤ x ∧ ∀ cs fz, w.heap[x]? ≠ some (.cells cs 5 fz)) (hn : ∀ b ∈ s.blk, b ∉ L) : PRow N B s l w' :=
  RowG.frL h f hn fun _ _ ⟨s, e, hb⟩ => ⟨s, e, hb.frL f hL⟩
theorem Blk.noB {w : World} {b : Nat} {cs : Array Value} {t : TypeId} (h : Blk w b cs t) (ht : t ≠ 5) : ∀ cs fz, w.heap[b]? ≠ some (.cells cs 5 fz) := fun cs' fz e => by
  rw [Blk] at h
  rw [h] at e
  cases e
  exact ht rfl
def CloneF (N : Nat) (l : List Int) : World → Value → Prop := fun w v => ∃ s : Sl, v = .slice s.A s.n s.c ∧ Bts N w s l
theorem CloneF.keeps {N : Nat} {l : List Int} : Keeps [] (CloneF N l) := fun _ _ _ f ⟨s, e, h⟩ => ⟨s, e, h.fr f⟩
def AggF (N : Nat) (l : List Int) (mk : Sl → Array Value) : World → Value → Prop := fun w v => ∃ s : Sl, v = .agg (mk s) ∧ Bts N w s l
theorem AggF.keeps {N : Nat} {l : List Int} {mk : Sl → Array Value} : Keeps [] (AggF N l mk) := fun _ _ _ f ⟨s, e, h⟩ => ⟨s, e, h.fr f⟩
def SrcF (N : Nat) (l : List Int) (mk : Sl → Array Value) : World → Value → Prop := fun w v => ∃ s : Sl, Src 1 (mk s).toList w v ∧ Bts N w s l
theorem SrcF.keeps {N : Nat} {l : List Int} {mk : Sl → Array Value} : Keeps [] (SrcF N l mk) := fun _ _ _ f ⟨s, e, h⟩ => ⟨s, Src.keeps _ _ _ f e, h.fr f⟩
def RowF {α : Type} (R : Sl → List α → World → Prop) (l : List α) : World → Value → Prop := fun w v => ∃ s : Sl, v = .slice s.A s.n s.c ∧ R s l w
theorem RowF.keeps {α : Type} {R : Sl → List α → World → Prop} {l : List α} (h : ∀ s w w', Fr [] w w' → R s l w → R s l w') : Keeps [] (RowF R l) := fun _ _ _ f ⟨s, e, hr⟩ => ⟨s, e, h s _ _ f hr⟩
theorem Fr.grownL {w w' : World} {s : Sl} (g : w.grownBy w' s.v.ownBlock) : Fr s.blk w w' := by
  refine (Fr.refl _ _).grown g fun k hk => .inl ?_
  cases s with
  | mk A n c =>
    cases A with
    | none => simp [Value.ownBlock] at hk
    | some a => simp [Value.ownBlock] at hk; simp [Sl.blk, hk]
theorem stC_sl {N : Nat} {L : List Nat} {w w' : World} {s : Sl} (g : w.grownBy w' s.v.ownBlock) (h : ∀ b ∈ s.blk, b ∈ L) : stC N L true w w' := ⟨s.blk, Fr.grownL g, fun x hx => .inl (h x hx)⟩
theorem All2.getE {α β : Type} {r : β → α → Prop} : ∀ {xs : List β} {ys : List α}, All2 r xs ys → ∀ {k : Nat} {y : α}, ys[k]? = some y → ∃ x, xs[k]? = some x ∧ r x y
  | [], [], _, k, y, hk => by simp at hk
  | x :: xs, y' :: ys, h, 0, y, hk => by
    simp only [List.getElem?_cons_zero, Option.some.injEq] at hk
    subst hk
    exact ⟨x, rfl, h.1⟩
  | x :: xs, y' :: ys, h, k + 1, y, hk => All2.getE h.2 hk
  | [], _ :: _, h, _, _, _ => h.elim
  | _ :: _, [], h, _, _, _ => h.elim
theorem flat_getG {α : Type} (z : Nat) : ∀ {xs : List (List α)}, (∀ x ∈ xs, x.length = z) → ∀ {k : Nat} {x : List α}, xs[k]? = some x → ∀ {j : Nat}, j < z → xs.flatten[k * z + j]? = x[j]?
  | [], _, k, x, hk, _, _ => by simp at hk
  | y :: ys, h, 0, x, hk, j, hj => by
    simp only [List.getElem?_cons_zero, Option.some.injEq] at hk
    subst hk
    rw [List.flatten_cons, List.getElem?_append_left (by rw [h y (by simp)]; omega)]
    simp
  | y :: ys, h, k + 1, x, hk, j, hj => by
    simp only [List.getElem?_cons_succ] at hk
    have hy := h y (by simp)
    rw [List.flatten_cons, List.getElem?_append_right (by rw [hy, Nat.add_mul]; omega), ← flat_getG z (fun x hx => h x (by simp [hx])) hk hj, hy]
    congr 1
    rw [Nat.add_mul]
    omega
theorem RowG.get {α : Type} {T : TypeId} {z : Nat} {rep : World → List Value → α → Prop} {B : Nat} {w : World} {s : Sl} {l : List α} (h : RowG T z rep B w s l) {k : Nat} {d : α} (hk : l[k]? = some d) :
    ∃ b x, s.A = some ⟨b, 0, none⟩ ∧ x.length = z ∧ rep w x d ∧ ∀ j, j < z → w.cell? ⟨b, k * z + j, none⟩ = x[j]? := by
  obtain ⟨xs, h1, h2, h3⟩ := h
  obtain ⟨x, hx, hr⟩ := h2.getE hk
  have hl : k < l.length := (List.getElem?_eq_some_iff.1 hk).1
  obtain ⟨b, hA, hc⟩ := own_at h1 (by omega)
  have hz := h3 x (List.mem_of_getElem? hx)
  refine ⟨b, x, hA, hz, hr, fun j hj => ?_⟩
  have hf := flat_getG z h3 hx hj
  obtain ⟨v, hv⟩ : ∃ v, x[j]? = some v := ⟨x[j]'(by omega), List.getElem?_eq_getElem _⟩
  rw [hv] at hf ⊢
  exact hc _ _ hf
theorem PRow.get {N B : Nat} {s : Sl} {l : List PD} {w : World} (h : PRow N B s l w) {k : Nat} {d : PD} (hk : l[k]? = some d) :
    ∃ b sd, s.A = some ⟨b, 0, none⟩ ∧ Bts N w sd d.info ∧ w.cell? ⟨b, k * 9, none⟩ = some (.int .i64 d.to) ∧ w.cell? ⟨b, k * 9 + 1, none⟩ = some (.int .i64 d.fr) ∧ w.cell? ⟨b, k * 9 + 2, none⟩ = some (.bool d.rs) ∧ w.cell? ⟨b, k * 9 + 3, none⟩ = some (.int .i64 d.fm) ∧ w.cell? ⟨b, k * 9 + 4, none⟩ = some (.int .i64 d.kd) ∧ w.cell? ⟨b, k * 9 + 5, none⟩ = some (.int .i64 d.ns) ∧ w.cell? ⟨b, k * 9 + 6, none⟩ = some (.int .i64 d.nr) ∧ w.cell? ⟨b, k * 9 + 7, none⟩ = some (.bool d.po) ∧ w.cell? ⟨b, k * 9 + 8, none⟩ = some (.slice sd.A sd.n sd.c) := by
  obtain ⟨b, x, hA, hz, ⟨sd, rfl, hb⟩, hc⟩ := RowG.get h hk
  exact ⟨b, sd, hA, hb, hc 0 (by omega), hc 1 (by omega), hc 2 (by omega), hc 3 (by omega), hc 4 (by omega), hc 5 (by omega), hc 6 (by omega), hc 7 (by omega), hc 8 (by omega)⟩

end Go.Proofs.YtneggoonlmmjeaaGreat
namespace Go.Proofs.YtneggoonlmmjeaaGreat
open Go.RowKit Go.Shelf
set_option linter.unusedVariables false
set_option linter.unusedSimpArgs false
set_option maxRecDepth 100000

abbrev TL := List (Int × Int)
def tcell (x : Int × Int) : List Value := [.int .i64 x.1, .int .i64 x.2]
def tflat (l : TL) : List Value := l.flatMap tcell
theorem tflat_len (l : TL) : (tflat l).length = l.length * 2 := by
  unfold tflat
  induction l with
  | nil => rfl
  | cons x r ih => rw [List.flatMap_cons, List.length_append, ih]; simp [tcell]; omega
theorem tflat_append (a b : TL) : tflat (a ++ b) = tflat a ++ tflat b := by simp [tflat]
/-- Where the first timer of a kind stands. -/
def tidx (l : TL) (k : Int) : Int := match l.findIdx? (·.1 == k) with | some i => (i : Int) | none => -1
theorem tidx_none {l : TL} {k : Int} (h : ∀ i (hi : i < l.length), l[i].1 ≠ k) : tidx l k = -1 := by
  unfold tidx
  rw [List.findIdx?_eq_none_iff.2]
  intro x hx
  obtain ⟨i, hi, rfl⟩ := List.mem_iff_getElem.1 hx
  simpa using h i hi
theorem tidx_some {l : TL} {k : Int} {i : Nat} (hi : i < l.length) (h : l[i].1 = k) (hb : ∀ j (hj : j < i), (l[j]'(by omega)).1 ≠ k) : tidx l k = i := by
  unfold tidx
  rw [List.findIdx?_eq_some_iff_getElem.2 ⟨hi, by simpa using h, fun j hj => by simpa using hb j hj⟩]
/-- Block b is a clock. -/
structure IsClk (w : World) (b : Nat) (s : Sl) (most now : Int) (l : TL) : Prop where
  head : Blk w b #[.int .i64 most, .int .i64 now, .slice s.A s.n s.c] 153
  own : w.ownsRow 0 158 2 s.v l.length (tflat l)
  off : b ∉ s.blk
theorem IsClk.fr {w w' : World} {b : Nat} {s : Sl} {most now : Int} {l : TL} {L : List Nat} (h : IsClk w b s most now l) (f : Fr L w w') (hL : ∀ x ∈ b :: s.blk, x ∉ L) : IsClk w' b s most now l := by
  refine ⟨h.head.fr f (hL b (by simp)), ⟨h.own.1, h.own.2.imp id ?_⟩, h.off⟩
  rintro ⟨g, cap, cur, e, hg, hb, r⟩
  exact ⟨g, cap, cur, e, hg, f.keeps hb (hL g (List.mem_cons_of_mem _ (blk_mem e))), r⟩
theorem IsClk.n_ {w : World} {b : Nat} {s : Sl} {most now : Int} {l : TL} (h : IsClk w b s most now l) : s.n = l.length := own_n h.own
theorem IsClk.at_ {w : World} {b : Nat} {s : Sl} {most now : Int} {l : TL} (h : IsClk w b s most now l) (i : Nat) (hi : i < l.length) : ∃ g, s.A = some ⟨g, 0, none⟩ ∧ w.cell? ⟨g, i * 2, none⟩ = some (.int .i64 l[i].1) ∧ w.cell? ⟨g, i * 2 + 1, none⟩ = some (.int .i64 l[i].2) := by
  obtain ⟨g, hg, hc⟩ := own_at h.own (by omega)
  have hq := fun j hj => flat_get tcell 2 (fun _ => rfl) l i j hi hj
  exact ⟨g, hg, hc _ _ (by have := hq 0 (by omega); simpa [tflat, tcell] using this), hc _ _ (by have := hq 1 (by omega); simpa [tflat, tcell] using this)⟩

theorem clk_place1 (x y k : Int) (b : Nat) (w : World) (h : w.cell? ⟨b, 0, none⟩ = some (.int .i64 k)) :
    Calls Tryz.prog 242 #[.agg #[.int .i64 x, .int .i64 y], .pointer (some ⟨b, 0, none⟩)] w fun e w' => e = .returned (.bool (x == k)) ∧ Fr [] w w' := by
  have h1 : (w.alloc (.cells #[.int .i64 x, .int .i64 y] 158)).cell? ⟨b, 0, none⟩ = some (.int .i64 k) := ((Fr.refl [] w).alloc _).cell h (by simp)
  go_enter Tryz.func242, Tryz.ntmps242
  go_wp2
  go_ret
  exact ⟨rfl, (Fr.refl [] w).alloc _⟩

theorem clk_index (w : World) (b q : Nat) (s : Sl) (most now : Int) (l : TL) (k : Int) (h : IsClk w b s most now l) (hk : w.cell? ⟨q, 0, none⟩ = some (.int .i64 k)) (hl : l.length ≤ 1000) :
    Calls Tryz.prog 241 #[.slice s.A s.n s.c, .func (.func 242) #[] #[.pointer (some ⟨q, 0, none⟩)]] w fun e w' => e = .returned (.int .i64 (tidx l k)) ∧ Fr [] w w' := by
  have hn := h.n_
  obtain ⟨A, n, c⟩ := s
  simp only at hn
  subst hn
  go_enter Tryz.func241, Tryz.ntmps241
  go_wp2
  go_loopw [8] (fun i wr => ∃ j : Nat, i = .int .i64 j ∧ j ≤ l.length ∧ Fr [] w wr ∧ ∀ t (ht : t < l.length), t < j → l[t].1 ≠ k) (fun i _ => l.length - (intOf i).toNat)
  case atStart => exact ⟨0, rfl, by omega, Fr.refl _ _, fun t ht h0 => by omega⟩
  case round =>
    obtain ⟨j, rfl, hj, f1, hno⟩ := hrel
    by_cases hlt : j < l.length
    · have d1 : decide ((j : Int) < (l.length : Int)) = true := by simp; omega
      have d2 : decide (j < l.length) = true := by simp; omega
      obtain ⟨g, hg, c0, c1⟩ := (h.fr f1 (by simp)).at_ j hlt
      simp only at hg
      subst hg
      obtain ⟨x, hx⟩ : ∃ x, l[j].1 = x := ⟨_, rfl⟩
      obtain ⟨y, hy⟩ : ∃ y, l[j].2 = y := ⟨_, rfl⟩
      rw [hx] at c0
      rw [hy] at c1
      have HX := Lib.hid hx
      have F1 := Lib.hid f1
      have HNO := Lib.hid hno
      clear hx hy hno f1
      go_wp2_with fail
      refine (clk_place1 x y k q _ (F1.out.cell hk (by simp))).mono ?_
      rintro e w2 ⟨rfl, f2⟩
      by_cases hxk : x = k
      · have d3 : (x == k) = true := by simp [hxk]
        have hid : tidx l k = j := tidx_some hlt (HX.out.trans hxk) (fun t ht => HNO.out t (by omega) ht)
        have F2 := F1.out.tr f2
        have HID := Lib.hid hid
        clear hxk hid f2 c0 c1
        go_wp2
        go_ret
        exact ⟨by rw [HID.out]; rfl, F2⟩
      · have d3 : (x == k) = false := by simp [hxk]
        have F2 := F1.out.tr f2
        have HXK := Lib.hid hxk
        clear hxk f2 c0 c1
        go_wp2
        go_roundw
        case rel => exact ⟨j + 1, by go_num, by omega, F2, fun t ht h0 => by
          by_cases e : t = j
          · subst e; rw [HX.out]; exact HXK.out
          · exact HNO.out t ht (by omega)⟩
        case measure => simp [intOf]; omega
    · have d1 : decide ((j : Int) < (l.length : Int)) = false := by simp; omega
      have hid : tidx l k = -1 := tidx_none (fun i hi => hno i hi (by omega))
      have HID := Lib.hid hid
      clear hid hno
      go_wp2
      go_ret
      exact ⟨by rw [HID.out]; rfl, f1⟩

theorem clk_place (w : World) (b : Nat) (s : Sl) (most now : Int) (l : TL) (k : Int) (h : IsClk w b s most now l) (hl : l.length ≤ 1000) :
    Calls Tryz.prog 231 #[.pointer (some ⟨b, 0, none⟩), .int .i64 k] w fun e w' => e = .returned (.int .i64 (tidx l k)) ∧ Fr [] w w' := by
  have hk := (Blk.new w #[.int .i64 k] 3).cell 0 rfl
  have h1 := h.fr ((Fr.refl [] w).alloc (.cells #[.int .i64 k] 3)) (by simp)
  have c2 := h1.head.cell 2 rfl
  simp only [List.getElem_toArray, List.getElem_cons_zero, List.getElem_cons_succ] at c2 hk
  go_enter Tryz.func231, Tryz.ntmps231
  go_wp2_with fail
  refine (clk_index _ b w.heap.size s most now l k h1 hk hl).mono ?_
  rintro e w2 ⟨rfl, f2⟩
  have F2 := ((Fr.refl [] w).alloc (.cells #[.int .i64 k] 3)).tr f2
  clear c2 hk
  go_wp2
  go_ret
  exact ⟨rfl, F2⟩

end Go.Proofs.YtneggoonlmmjeaaGreat
namespace Go.Proofs.YtneggoonlmmjeaaGreat
open Go.RowKit Go.Shelf
set_option linter.unusedVariables false
set_option linter.unusedSimpArgs false
set_option maxRecDepth 100000

def laid : Array Value → Nat → List Value → Array Value
  | cs, _, [] => cs
  | cs, o, v :: r => laid (cs.setIfInBounds o v) (o + 1) r
theorem laid_size : ∀ (vs : List Value) (cs : Array Value) (o : Nat), (laid cs o vs).size = cs.size
  | [], _, _ => rfl
  | v :: r, cs, o => by rw [laid, laid_size r]; simp
theorem laid_list : ∀ (vs : List Value) (cs : Array Value) (o : Nat), o + vs.length ≤ cs.size → (laid cs o vs).toList = cs.toList.take o ++ vs ++ cs.toList.drop (o + vs.length)
  | [], cs, o, h => by simp [laid]
  | v :: r, cs, o, h => by
    have ho : o < cs.toList.length := by simp at h ⊢; omega
    rw [laid, laid_list r _ _ (by simp at h ⊢; omega)]
    have e : (cs.setIfInBounds o v).toList = cs.toList.take o ++ v :: cs.toList.drop (o + 1) := by
      rw [Array.toList_setIfInBounds, List.set_eq_take_append_cons_drop, if_pos ho]
    have e2 : (cs.setIfInBounds o v).toList = (cs.toList.take o ++ [v]) ++ cs.toList.drop (o + 1) := by rw [e]; simp
    have hl : (cs.toList.take o ++ [v]).length = o + 1 := by simp; simp at ho; omega
    rw [e2, List.take_left' hl, ← List.drop_drop, List.drop_left' hl, List.drop_drop]
    simp only [List.append_assoc, List.cons_append, List.nil_append, List.length_cons]
    rw [show o + 1 + r.length = o + (r.length + 1) by omega]
theorem setCells_blk : ∀ (vs : List Value) (w : World) (b : Nat) (cs : Array Value) (t : TypeId) (o : Nat), Blk w b cs t → Blk (w.setCells b o vs) b (laid cs o vs) t
  | [], _, _, _, _, _, h => h
  | v :: r, w, b, cs, t, o, h => by
    rw [World.setCells, laid]
    exact setCells_blk r _ b _ t (o + 1) (Blk.set h o v rfl)
theorem setCells_fr : ∀ (vs : List Value) (w0 w : World) (b : Nat) (o : Nat) (L : List Nat), Fr L w0 w → (b ∈ L ∨ w0.heap.size ≤ b) → Fr L w0 (w.setCells b o vs)
  | [], _, _, _, _, _, h, _ => h
  | v :: r, w0, w, b, o, L, h, hb => by
    rw [World.setCells]
    exact setCells_fr r w0 _ b (o + 1) L (h.setCell v hb) hb

theorem tflat_take (l : TL) (i : Nat) : tflat (l.take i) = (tflat l).take (i * 2) := by
  induction l generalizing i with
  | nil => simp [tflat]
  | cons x r ih =>
    cases i with
    | zero => simp [tflat]
    | succ i =>
      have := ih i
      simp only [tflat, List.take_succ_cons, List.flatMap_cons, tcell] at this ⊢
      rw [this, show (i + 1) * 2 = i * 2 + 1 + 1 by omega]
      rfl
theorem tflat_drop (l : TL) (i : Nat) : tflat (l.drop i) = (tflat l).drop (i * 2) := by
  induction l generalizing i with
  | nil => simp [tflat]
  | cons x r ih =>
    cases i with
    | zero => simp
    | succ i =>
      have := ih i
      simp only [tflat, List.drop_succ_cons, List.flatMap_cons, tcell] at this ⊢
      rw [this, show (i + 1) * 2 = i * 2 + 1 + 1 by omega]
      rfl
theorem tim_info : ∃ i0 : TypeInfo, Tryz.prog.info? 158 = some i0 ∧ i0.zero = some (.agg #[.int .i64 0, .int .i64 0]) ∧ i0.size = 2 ∧ i0.bytes = 16 :=
  info_parts (show (Tryz.prog.info? 158).map (fun i => (i.zero, i.size, i.bytes)) = some (some (.agg #[.int .i64 0, .int .i64 0]), 2, 16) by kernel_rfl)

theorem eraseIdx_td {α : Type} (l : List α) (i : Nat) : l.eraseIdx i = l.take i ++ l.drop (i + 1) := List.eraseIdx_eq_take_drop_succ l i

set_option maxHeartbeats 4000000 in
set_option maxRecDepth 100000 in
theorem clk_Delete (w : World) (g c i : Nat) (cur : Array Value) (l : TL) (hb : Blk w g cur 158) (hsz : cur.size = c * 2) (hcap : l.length ≤ c) (hx : cur.toList.take (l.length * 2) = tflat l) (hi : i < l.length) (hc : c ≤ 9223372036854775807) :
    Calls Tryz.prog 232 #[.slice (some ⟨g, 0, none⟩) l.length c, .int .i64 i, .int .i64 ((i : Int) + 1)] w fun e w' =>
      e = .returned (.slice (some ⟨g, 0, none⟩) (l.length - 1) c) ∧ w'.ownsRow 0 158 2 (.slice (some ⟨g, 0, none⟩) (l.length - 1) c) (l.length - 1) (tflat (l.eraseIdx i)) ∧ Fr [g] w w' := by
  obtain ⟨i0, hi0, hz0, hz1, hz2⟩ := tim_info
  have hun : Tryz.prog.underlying 151 = some (.slice 158) := Tryz.underlying151
  obtain ⟨k, hk⟩ : ∃ k, l.length = i + 1 + k := ⟨l.length - (i + 1), by omega⟩
  obtain ⟨news, hnews⟩ : ∃ news, news = tflat (l.drop (i + 1)) := ⟨_, rfl⟩
  have hlen : news.length = k * 2 := by rw [hnews, tflat_len, List.length_drop]; omega
  have hcell : ∀ j v, j < l.length * 2 → (tflat l)[j]? = some v → w.cell? ⟨g, j, none⟩ = some v := by
    intro j v hj hv
    refine hb.cell j ?_
    rw [← hx, List.getElem?_take, if_pos hj] at hv
    rw [← Array.getElem?_toList]
    exact hv
  obtain ⟨A, hA, hsrc⟩ : ∃ A : Addr, (if c = i + 1 then some (⟨g, 0, none⟩ : Addr) else some ⟨g, (i + 1) * 2, none⟩) = some A ∧ Hid (∀ t u, news[t]? = some u → w.drew.cell? (A.add t) = some u) := by
    by_cases h : c = i + 1
    · refine ⟨⟨g, 0, none⟩, by simp [h], Lib.hid fun t u hu => ?_⟩
      have h0 : news.length = 0 := by rw [hlen]; omega
      rw [List.length_eq_zero_iff.1 h0] at hu
      simp at hu
    · refine ⟨⟨g, (i + 1) * 2, none⟩, by simp [h], Lib.hid fun t u hu => ?_⟩
      have ht : t < k * 2 := by
        have := (List.getElem?_eq_some_iff.1 hu).1
        rwa [hlen] at this
      rw [hnews, tflat_drop, List.getElem?_drop] at hu
      rw [Go.WideShapes.add_plain]
      exact hcell _ _ (by omega) hu
  have s1 : Hid (news.length = k * 2) := Lib.hid hlen
  have s2 : Hid (∀ u ∈ news, u.oneCell' = true) := Lib.hid (by
    intro u hu
    rw [hnews] at hu
    obtain ⟨x, _, hx⟩ := List.mem_flatMap.1 hu
    simp only [tcell, List.mem_cons, List.not_mem_nil, or_false] at hx
    rcases hx with rfl | rfl <;> rfl)
  have hbd : Blk w.drew g cur 158 := hb.drew
  have s3 : Hid (∀ t, t < news.length → (w.drew.cell? ⟨g, 0 + i * 2 + t, none⟩).isSome = true ∧ w.drew.frozen? ⟨g, 0 + i * 2 + t, none⟩ = false) := Lib.hid (by
    intro t ht
    rw [hlen] at ht
    have hlt : 0 + i * 2 + t < cur.size := by rw [hsz]; omega
    exact ⟨by rw [hbd.cell _ (Array.getElem?_eq_getElem hlt)]; rfl, hbd.free _⟩)
  obtain ⟨W1, hW1⟩ : ∃ W1, W1 = w.drew.setCells g (0 + i * 2) news := ⟨_, rfl⟩
  have hB1 : Blk W1 g (laid cur (0 + i * 2) news) 158 := by rw [hW1]; exact setCells_blk news _ g cur _ _ hbd
  have hF1 : Fr [g] w W1 := by rw [hW1]; exact setCells_fr news w _ g _ [g] ((Fr.refl [g] w).drew) (.inl (by simp))
  have hcl : ∀ ty, (Builtin.clear_ #[151] ty #[.slice (some ⟨g, (i + k) * 2, none⟩) 1 (c - (i + k))]).run Tryz.prog W1 = .ok (.tuple #[]) (W1.setCells g ((i + k) * 2) [.int .i64 0, .int .i64 0]) := by
    intro ty
    have hlt : ∀ j, j < 2 → (i + k) * 2 + j < (laid cur (0 + i * 2) news).size := fun j hj => by rw [laid_size, hsz]; omega
    have hst := run_storeCells_cells (P := Tryz.prog) g ((i + k) * 2) [.int .i64 0, .int .i64 0] 0 W1 (fun j hj => by rw [Nat.add_zero, hB1.cell _ (Array.getElem?_eq_getElem (hlt j hj))]; rfl) (fun j hj => hB1.free _) (by intro v hv; simp only [List.mem_cons, List.not_mem_nil, or_false] at hv; rcases hv with rfl | rfl <;> rfl)
    simp only [Nat.add_zero] at hst
    have hzc : (Builtin.zeroCells (Value.agg #[.int .i64 0, .int .i64 0]).cells 1).toList = [.int .i64 0, .int .i64 0] := by simp [Builtin.zeroCells, Value.cells, List.range_succ]
    simp [Builtin.clear_, run_underlying hun, zeroValue, typeInfo, hi0, hz0, hzc, hst]
  have hfin : W1.setCells g ((i + k) * 2) [.int .i64 0, .int .i64 0] = W1.setCells g ((i + k) * 2) [.int .i64 0, .int .i64 0] := rfl
  have hB2 : Blk (W1.setCells g ((i + k) * 2) [.int .i64 0, .int .i64 0]) g (laid (laid cur (0 + i * 2) news) ((i + k) * 2) [.int .i64 0, .int .i64 0]) 158 := setCells_blk _ _ g _ _ _ hB1
  have hF2 : Fr [g] w (W1.setCells g ((i + k) * 2) [.int .i64 0, .int .i64 0]) := setCells_fr _ w _ g _ [g] hF1 (.inl (by simp))
  have hgood : ((laid (laid cur (0 + i * 2) news) ((i + k) * 2) [.int .i64 0, .int .i64 0]).toList.take ((i + k) * 2)) = tflat (l.eraseIdx i) := by
    rw [laid_list _ _ _ (by rw [laid_size, hsz]; simp; omega), List.append_assoc, List.take_append_of_le_length (by simp [laid_size, hsz]; omega), List.take_take, Nat.min_self, laid_list _ _ _ (by rw [hlen, hsz]; omega)]
    have hl0 : (cur.toList.take (0 + i * 2) ++ news).length = (i + k) * 2 := by rw [List.length_append, List.length_take, hlen, Array.length_toList, hsz]; omega
    rw [List.take_left' hl0, hnews, eraseIdx_td, tflat_append, tflat_take, ← hx, List.take_take, Nat.zero_add, Nat.min_eq_left (by omega)]
  have hown : (W1.setCells g ((i + k) * 2) [.int .i64 0, .int .i64 0]).ownsRow 0 158 2 (.slice (some ⟨g, 0, none⟩) (i + k) c) (i + k) (tflat (l.eraseIdx i)) :=
    ⟨by rw [tflat_len, List.length_eraseIdx_of_lt hi]; omega, .inr ⟨g, c, _, rfl, Nat.zero_le _, hB2, by omega, by unfold maxLen; omega, by rw [laid_size, laid_size, hsz], hgood⟩⟩
  have hW : Hid (W1 = w.drew.setCells g (0 + i * 2) news) := Lib.hid hW1
  have HFIN := Lib.hid (And.intro hown hF2)
  have hic : i ≤ c := by omega
  have hjc : i + 1 ≤ c := by omega
  have hik : i + k < c := by omega
  have mixed : Tryz.prog.follows Departure.mixedOrders = true := by kernel_rfl
  have hcd : 0 ≤ (i : Int) + 1 ∧ (i : Int) + 1 ≤ (i : Int) + 1 + (k : Int) := by omega
  have e1 : ((i : Int) == (i : Int) + 1) = false := by simp; omega
  rw [hk]
  rw [hk] at hi hcap
  clear hW1 hcell hx hnews hlen hB1 hF1 hbd hb hown hF2 hB2 hgood hfin hk hsz
  go_enter Tryz.func232, Tryz.ntmps232
  go_wp2_with fail
  go_region_law_o (refine step_append_room rfl (.tmp 22) (.tmp 25) 151 rfl 158 i0 2 hun hi0 hz1 g 0 i c (by simp [Act.eval, Act.put]) A k (c - (i + 1)) news (by simp [Act.eval, Act.put]) s1.out hsrc.out s2.out (by omega) s3.out ?_; rw [← hW.out])
  have hsub : i + 1 + k - (i + k) = 1 := by omega
  have hne : ¬(c = i + k) := by omega
  go_wp2
  trace_state
  go_ret
  rw [show i + 1 + k - 1 = i + k by omega]
  exact ⟨rfl, HFIN.out⟩
end Go.Proofs.YtneggoonlmmjeaaGreat
namespace Go.Proofs.YtneggoonlmmjeaaGreat
open Go.RowKit Go.Shelf
set_option linter.unusedVariables false
set_option linter.unusedSimpArgs false
set_option maxRecDepth 100000

/-- The first timer of a kind taken out. -/
def tstop (l : TL) (k : Int) : TL := match l.findIdx? (·.1 == k) with | some i => l.eraseIdx i | none => l
/-- What is left of a kind. -/
def tleft (l : TL) (k : Int) : Int := match l.findIdx? (·.1 == k) with | some i => (l[i]?.getD (0, 0)).2 | none => 0
theorem tidx_cases (l : TL) (k : Int) : (l.findIdx? (·.1 == k) = none ∧ tidx l k = -1 ∧ tstop l k = l ∧ tleft l k = 0) ∨ ∃ i, ∃ h : i < l.length, l.findIdx? (·.1 == k) = some i ∧ tidx l k = i ∧ tstop l k = l.eraseIdx i ∧ tleft l k = l[i].2 := by
  cases hf : l.findIdx? (·.1 == k) with
  | none => left; simp [tidx, tstop, tleft, hf]
  | some i =>
    right
    have hi := (List.findIdx?_eq_some_iff_getElem.1 hf).1
    exact ⟨i, hi, rfl, by simp [tidx, hf], by simp [tstop, hf], by simp [tleft, hf, hi]⟩

/-- What a clock turns to. -/
def ClkTo (w w' : World) (b : Nat) (s : Sl) (most now : Int) (l : TL) : Prop := ∃ s' : Sl, IsClk w' b s' most now l ∧ Fr (b :: s.blk) w w' ∧ ∀ x ∈ s'.blk, x ∈ s.blk ∨ w.heap.size ≤ x
theorem IsClk.lt {w : World} {b : Nat} {s : Sl} {most now : Int} {l : TL} (h : IsClk w b s most now l) : ∀ x ∈ b :: s.blk, x < w.heap.size := by
  intro x hx
  rcases List.mem_cons.1 hx with rfl | hx
  · exact h.head.lt
  · obtain ⟨_, cs, e⟩ := own_blk h.own x hx
    exact (Array.getElem?_eq_some_iff.1 e).1

theorem clk_Stop (w : World) (b : Nat) (s : Sl) (most now : Int) (l : TL) (k : Int) (h : IsClk w b s most now l) (hl : l.length ≤ 1000) :
    Calls Tryz.prog 198 #[.pointer (some ⟨b, 0, none⟩), .int .i64 k] w fun e w' => e = .returned (.bool (decide (0 ≤ tidx l k))) ∧ ClkTo w w' b s most now (tstop l k) := by
  have hpl := clk_place w b s most now l k h hl
  rcases tidx_cases l k with ⟨-, e1, e2, -⟩ | ⟨i, hi, -, e1, e2, -⟩
  · rw [e1] at hpl
    rw [e1, e2]
    have H := Lib.hid h
    clear e1 e2 h
    go_enter Tryz.func198, Tryz.ntmps198
    go_wp2_with fail
    refine hpl.mono ?_
    rintro e w1 ⟨rfl, f1⟩
    clear hpl
    go_wp2
    go_ret
    exact ⟨rfl, s, H.out.fr f1 (by simp), f1.mono (by simp), fun x hx => .inl hx⟩
  · rw [e1] at hpl
    rw [e1, e2]
    have d1 : decide (0 ≤ (i : Int)) = true := by simp
    obtain ⟨hlen, hown⟩ := h.own
    rcases hown with ⟨_, e0⟩ | ⟨g, cap, cur, ev, _, hb, hcap, hmax, hsz, hx⟩
    · omega
    obtain ⟨A, n, c⟩ := s
    simp only [Sl.v, Value.slice.injEq] at ev
    obtain ⟨rfl, rfl, rfl⟩ := ev
    have hgb : b ≠ g := fun e => h.off (by simp [Sl.blk, e])
    have c2 := h.head.cell 2 rfl
    simp only [List.getElem_toArray, List.getElem_cons_zero, List.getElem_cons_succ] at c2
    have H := Lib.hid h
    have HD := Lib.hid (fun w1 (hb1 : Blk w1 g cur 158) => clk_Delete w1 g c i cur l hb1 hsz hcap hx hi (by unfold maxLen at hmax; omega))
    have HB : Hid (Blk w g cur 158) := Lib.hid hb
    have HI := Lib.hid hi
    clear e1 e2 h hb hsz hcap hx hmax hlen hi
    have hiw : IntKind.i64.wrap ((i : Int) + 1) = (i : Int) + 1 := IntWalk.i64_in _ (by have := HI.out; omega)
    go_enter Tryz.func198, Tryz.ntmps198
    go_wp2_with fail
    refine hpl.mono ?_
    rintro e w1 ⟨rfl, f1⟩
    have c2 := f1.cell c2 (by simp)
    clear hpl
    go_wp2_with fail
    refine (HD.out w1 (HB.out.fr f1 (by simp))).mono ?_
    rintro e w2 ⟨rfl, hown, f2⟩
    have hh := (H.out.head.fr f1 (by simp)).fr f2 (by simp [hgb])
    have hf := hh.free 2
    have c2' := hh.cell 2 rfl
    simp only [List.getElem_toArray, List.getElem_cons_zero, List.getElem_cons_succ] at c2'
    have HH := Lib.hid hh
    have HO := Lib.hid hown
    have F := Lib.hid ((f1.mono (M := [g]) (by simp)).tr f2)
    clear c2 hh hown f1 f2
    go_wp2
    go_ret
    have hle : (l.eraseIdx i).length = l.length - 1 := by rw [List.length_eraseIdx_of_lt HI.out]
    refine ⟨rfl, ⟨some ⟨g, 0, none⟩, l.length - 1, c⟩, ⟨Blk.set HH.out 2 _ rfl, ?_, by simp [Sl.blk, hgb]⟩, ?_, fun x hx => .inl (by simpa [Sl.blk] using hx)⟩
    · rw [hle]
      obtain ⟨h1, h2⟩ := HO.out
      refine ⟨h1, h2.imp id ?_⟩
      rintro ⟨g', cap', cur', e', hg', hb', r'⟩
      have : g' = g := by simp at e'; exact e'.1.symm
      subst this
      exact ⟨g', cap', cur', e', hg', (Blk.far (t := 158) hb' (p := ⟨b, 2, none⟩) hgb.symm _ : Blk _ _ _ _), r'⟩
    · exact ((F.out.mono (M := b :: Sl.blk ⟨some ⟨g, 0, none⟩, l.length, c⟩) (by simp [Sl.blk])).setCell _ (.inl (by simp)))

theorem clk_Len (w : World) (b : Nat) (s : Sl) (most now : Int) (l : TL) (h : IsClk w b s most now l) :
    Calls Tryz.prog 80 #[.pointer (some ⟨b, 0, none⟩)] w fun e w' => e = .returned (.int .i64 l.length) ∧ w = w' := by
  have hn := h.n_
  have c2 := h.head.cell 2 rfl
  simp only [List.getElem_toArray, List.getElem_cons_zero, List.getElem_cons_succ] at c2
  rw [hn] at c2
  clear hn
  go_enter Tryz.func80, Tryz.ntmps80
  go_wp2
  go_ret
  exact ⟨rfl, rfl⟩

theorem clk_Left (w : World) (b : Nat) (s : Sl) (most now : Int) (l : TL) (k : Int) (h : IsClk w b s most now l) (hl : l.length ≤ 1000) :
    Calls Tryz.prog 214 #[.pointer (some ⟨b, 0, none⟩), .int .i64 k] w fun e w' => e = .returned (.int .i64 (tleft l k)) ∧ Fr [] w w' := by
  have hpl := clk_place w b s most now l k h hl
  rcases tidx_cases l k with ⟨-, e1, -, e3⟩ | ⟨i, hi, -, e1, -, e3⟩
  · rw [e1] at hpl
    rw [e3]
    clear e1 e3
    go_enter Tryz.func214, Tryz.ntmps214
    go_wp2_with fail
    refine hpl.mono ?_
    rintro e w1 ⟨rfl, f1⟩
    clear hpl
    go_wp2
    go_ret
    exact ⟨rfl, f1⟩
  · rw [e1] at hpl
    rw [e3]
    have hn := h.n_
    obtain ⟨g, hg, q0, q1⟩ := h.at_ i hi
    obtain ⟨A, n, c⟩ := s
    simp only at hg hn
    subst hg
    subst hn
    obtain ⟨y, hy⟩ : ∃ y, l[i].2 = y := ⟨_, rfl⟩
    rw [hy] at q1 ⊢
    have c2 := h.head.cell 2 rfl
    simp only [List.getElem_toArray, List.getElem_cons_zero, List.getElem_cons_succ] at c2
    have d1 : decide (0 ≤ (i : Int)) = true := by simp
    have d2 : decide (i < l.length) = true := by simp; omega
    clear e1 e3 hy q0
    go_enter Tryz.func214, Tryz.ntmps214
    go_wp2_with fail
    refine hpl.mono ?_
    rintro e w1 ⟨rfl, f1⟩
    have c2 := f1.cell c2 (by simp)
    have q1 := f1.cell q1 (by simp)
    clear hpl
    go_wp2
    go_ret
    exact ⟨rfl, f1⟩

theorem clk_New (w : World) (n : Int) (h0 : 0 ≤ n) (h1 : n ≤ 1000) :
    Calls Tryz.prog 44 #[.int .i64 n] w fun e w' => ∃ b, e = .returned (.pointer (some ⟨b, 0, none⟩)) ∧ IsClk w' b Sl.nil n 0 [] ∧ w.heap.size ≤ b ∧ Fr [] w w' := by
  have hb := Blk.new w #[.int .i64 n, .int .i64 0, .slice none 0 0] 153
  have hmax : max n 0 = n := by omega
  have F := (Fr.refl [] w).alloc (.cells #[.int .i64 n, .int .i64 0, .slice none 0 0] 153)
  have H := Lib.hid (And.intro hb F)
  clear hb F
  go_enter Tryz.func44, Tryz.ntmps44
  go_wp2
  go_ret
  exact ⟨_, rfl, ⟨H.out.1, World.ownsRow_nil _ _ _ _, by simp [Sl.blk, Sl.nil]⟩, Nat.le_refl _, H.out.2⟩

end Go.Proofs.YtneggoonlmmjeaaGreat
namespace Go.Proofs.YtneggoonlmmjeaaGreat
open Go.RowKit Go.Shelf
set_option linter.unusedVariables false
set_option linter.unusedSimpArgs false
set_option maxRecDepth 100000

theorem run_append_wh {P : Program} (w : World) (base : Nat) (t ty e : TypeId) (i : TypeInfo) (z : Value) (size bytes : Nat) (ht : P.underlying t = some (.slice e)) (hi : P.info? e = some i) (hz : i.zero = some z)
    (hsize : i.size = size) (hby : i.bytes = bytes) (hzs : z.cells.size = size) (hsz : 0 < size)
    (v : Value) (n : Nat) (xs : List Value) (hown : w.ownsRow base e size v n xs)
    (a : Addr) (m c : Nat) (news : List Value) (hl : news.length = m * size) (hnews : ∀ j u, news[j]? = some u → w.cell? (a.add j) = some u) (h1 : ∀ u ∈ news, u.oneCell' = true)
    (h63 : n + m ≤ maxLen) (hbytes : (n + m) * bytes ≤ 140737488355328) (hbase : base ≤ w.heap.size) :
    ∃ v' w', (Builtin.append_ #[t, t] ty #[v, .slice (some a) m c]).run P w = .ok v' w' ∧ w'.ownsRow base e size v' (n + m) (xs ++ news) ∧ w.grownBy w' v.ownBlock ∧ (∀ x, v'.ownBlock = some x → v.ownBlock = some x ∨ x = w.heap.size) := by
  obtain ⟨v', w', hr, h2, h3, h4⟩ := run_append_own (P := P) w base t ty e i z size bytes ht hi hz hsize hby hzs hsz v n xs hown a m c news hl hnews h1 h63 hbytes hbase
  refine ⟨v', w', hr, h2, h3, ?_⟩
  subst hsize
  subst hby
  have hsmall : n + m ≤ 9223372036854775807 := by simp only [maxLen] at h63; omega
  rcases hown.2 with ⟨rfl, rfl⟩ | ⟨g, cap, cur, rfl, hbg, hg, hnc, hcm, hcs, htake⟩
  · by_cases hm : m = 0
    · have := h4.2 ⟨rfl, hm⟩
      subst this
      intro x hx
      cases hx
    · have hr2 := run_append_nil (P := P) w t ty e i z ht hi hz a m c news hl hnews (by omega) (by omega) (by have hb := hbytes; simp only [Nat.zero_add] at hb; omega)
      rw [hr] at hr2
      injection hr2 with e1 e2
      subst e1
      intro x hx
      simp only [Value.ownBlock, Option.some.injEq] at hx
      exact .inr hx.symm
  · by_cases hroom : n + m ≤ cap
    · have hfit : n * i.size + news.length ≤ cur.size := by rw [hl, hcs, ← Nat.add_mul]; exact Nat.mul_le_mul_right _ hroom
      have hr2 := run_append_room (P := P) w t ty e i ht hi g n cap cur hg a m c news hl hnews h1 hroom hfit
      rw [hr] at hr2
      injection hr2 with e1 e2
      subst e1
      intro x hx
      exact .inl (by simpa [Value.ownBlock] using hx)
    · have holds : ∀ j u, xs[j]? = some u → w.cell? ((⟨g, 0, none⟩ : Addr).add j) = some u := hown.cells (g := g) rfl
      have hr2 := run_append_grow (P := P) w t ty e i z ht hi hz ⟨g, 0, none⟩ n cap xs hown.1 holds a m c news hl hnews (by omega) (by omega) (growslice_fits (by omega) hbytes)
      rw [hr] at hr2
      injection hr2 with e1 e2
      subst e1
      intro x hx
      simp only [Value.ownBlock, Option.some.injEq] at hx
      exact .inr hx.symm
/-- What a row turns to by an append: it lies where it lay, or in a new block. -/
def Pushed (w w' : World) (e : TypeId) (z : Nat) (s s' : Sl) (n : Nat) (xs : List Value) : Prop := w'.ownsRow 0 e z s'.v n xs ∧ Fr s.blk w w' ∧ ∀ x ∈ s'.blk, x ∈ s.blk ∨ w.heap.size ≤ x
theorem wp_push {P : Program} {w : World} {o : Oper} {a : Act} {K : Act → World → Prop} {Q : Exit → Act → World → Prop} (s x : Operand) (t : TypeId)
    (ho : o.op = .call { callee := .builtin .append, args := #[s, x], argTypes := #[t, t] })
    (e : TypeId) (i : TypeInfo) (z : Value) (size bytes : Nat) (ht : P.underlying t = some (.slice e)) (hi : P.info? e = some i) (hz : i.zero = some z)
    (hsize : i.size = size) (hby : i.bytes = bytes) (hzs : z.cells.size = size) (hsz : 0 < size)
    (r : Sl) (n : Nat) (xs : List Value) (hs : a.eval s = .slice r.A r.n r.c) (hown : w.ownsRow 0 e size r.v n xs)
    (y : Value) (m : Nat) (news : List Value) (hx : a.eval x = y) (hsrc : Src m news w y) (hl : news.length = m * size) (h1 : ∀ u ∈ news, u.oneCell' = true)
    (h63 : n + m ≤ maxLen) (hbytes : (n + m) * bytes ≤ 140737488355328)
    (h : ∀ r' : Sl, ∀ w', Pushed w w' e size r r' (n + m) (xs ++ news) → K (a.put o.dst (.slice r'.A r'.n r'.c)) w') : o.wp P a w K Q := by
  have hs' : a.eval s = r.v := hs
  rcases hsrc with ⟨rfl, rfl, rfl⟩ | ⟨ad, c, rfl, hnews⟩
  · obtain ⟨A, cap, hv, hc⟩ := own_cap hown
    have hr := run_append_none (P := P) w t o.type e i ht hi A n cap hc
    rw [hv] at hs'
    unfold Oper.wp execOp
    simp only [ho, resolve, invoke, builtin, Sem.run_bind, Sem.run_pure, Result.andThen_ok, List.map_toArray, List.map_cons, List.map_nil, hs', hx, hr]
    have := h r w ⟨by simpa using hown, Fr.refl _ _, fun x hx => .inl hx⟩
    rw [← hv]
    exact this
  · obtain ⟨v', w', hr, h2, h3, h4⟩ := run_append_wh (P := P) w 0 t o.type e i z size bytes ht hi hz hsize hby hzs hsz r.v n xs hown ad m c news hl hnews h1 h63 hbytes (Nat.zero_le _)
    obtain ⟨r', rfl⟩ := own_sl' h2
    unfold Oper.wp execOp
    simp only [ho, resolve, invoke, builtin, Sem.run_bind, Sem.run_pure, Result.andThen_ok, List.map_toArray, List.map_cons, List.map_nil, hs', hx, hr]
    refine h r' w' ⟨h2, Fr.grownL h3, fun b hb => ?_⟩
    obtain ⟨A, hA, rfl⟩ := mem_blk hb
    rcases h4 A.block (by simp [Value.ownBlock, hA]) with e1 | e1
    · left
      cases r with
      | mk A0 n0 c0 =>
        cases A0 with
        | none => simp [Value.ownBlock] at e1
        | some a0 => simp [Value.ownBlock] at e1; simp [Sl.blk, e1]
    · right; omega
theorem wpList_push {P : Program} {w : World} {ops : Array Oper} {rest : List Oper} {o : Oper} {a : Act} {Q : Exit → Act → World → Prop} (hgd : o.guard = none) (s x : Operand) (t : TypeId)
    (ho : o.op = .call { callee := .builtin .append, args := #[s, x], argTypes := #[t, t] })
    (e : TypeId) (i : TypeInfo) (z : Value) (size bytes : Nat) (ht : P.underlying t = some (.slice e)) (hi : P.info? e = some i) (hz : i.zero = some z)
    (hsize : i.size = size) (hby : i.bytes = bytes) (hzs : z.cells.size = size) (hsz : 0 < size)
    (r : Sl) (n : Nat) (xs : List Value) (hs : a.eval s = .slice r.A r.n r.c) (hown : w.ownsRow 0 e size r.v n xs)
    (y : Value) (m : Nat) (news : List Value) (hx : a.eval x = y) (hsrc : Src m news w y) (hl : news.length = m * size) (h1 : ∀ u ∈ news, u.oneCell' = true)
    (h63 : n + m ≤ maxLen) (hbytes : (n + m) * bytes ≤ 140737488355328)
    (h : ∀ r' : Sl, ∀ w', Pushed w w' e size r r' (n + m) (xs ++ news) → wpList P ops Q rest (a.put o.dst (.slice r'.A r'.n r'.c)) w') : wpList P ops Q (o :: rest) a w :=
  wpList_plain hgd fun _ hK => wp_push s x t ho e i z size bytes ht hi hz hsize hby hzs hsz r n xs hs hown y m news hx hsrc hl h1 h63 hbytes fun r' w' h2 => hK _ _ (h r' w' h2)
theorem step_push {P : Program} {ops : Array Oper} {w : World} {o : Oper} {a : Act} {K : Act → World → Prop} {Q : Exit → Act → World → Prop} {E : Prop} (hg : o.guard = none) (s x : Operand) (t : TypeId)
    (ho : o.op = .call { callee := .builtin .append, args := #[s, x], argTypes := #[t, t] })
    (e : TypeId) (i : TypeInfo) (z : Value) (size bytes : Nat) (ht : P.underlying t = some (.slice e)) (hi : P.info? e = some i) (hz : i.zero = some z)
    (hsize : i.size = size) (hby : i.bytes = bytes) (hzs : z.cells.size = size) (hsz : 0 < size)
    (r : Sl) (n : Nat) (xs : List Value) (hs : a.eval s = .slice r.A r.n r.c) (hown : w.ownsRow 0 e size r.v n xs)
    (y : Value) (m : Nat) (news : List Value) (hx : a.eval x = y) (hsrc : Src m news w y) (hl : news.length = m * size) (h1 : ∀ u ∈ news, u.oneCell' = true)
    (h63 : n + m ≤ maxLen) (hbytes : (n + m) * bytes ≤ 140737488355328)
    (h : ∀ r' : Sl, ∀ w', Pushed w w' e size r r' (n + m) (xs ++ news) → K (a.put o.dst (.slice r'.A r'.n r'.c)) w') : if Region.wanted o (yielded ops a.tmps) = true then Oper.wp P o a w K Q else E := by
  have hw : Region.wanted o (yielded ops a.tmps) = true := by simp [Region.wanted, hg]
  rw [if_pos hw]
  exact wp_push s x t ho e i z size bytes ht hi hz hsize hby hzs hsz r n xs hs hown y m news hx hsrc hl h1 h63 hbytes h

end Go.Proofs.YtneggoonlmmjeaaGreat
