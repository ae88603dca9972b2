/- Lemmas: ScrLa, ScrLc, PrH, PrI, ScrNc. No condition. -/
import Derived.Test.YtodlbajpcbdbaaaDoorKScriptPrints3
namespace Go.Proofs.YtodlbajpcbdbaaaDoor
open Go.Lib
set_option linter.unusedVariables false
set_option linter.unusedSimpArgs false
set_option maxRecDepth 100000

/-- The lines that are not so (without their ends). -/
def badsM : List (List UInt8) := [[], [116, 105, 99, 107], [84, 73, 67, 75, 32, 49], [32, 116, 105, 99, 107, 32, 49], [116, 105, 99, 107, 32, 48, 49], [111, 108, 100, 101, 114, 32, 49], [115, 101, 110, 100, 32, 48, 32, 49, 32, 52, 32, 56, 32, 97, 98, 99], [97, 115, 107, 32, 48, 32, 49, 32, 52, 32, 56, 32, 50, 32, 45], [115, 104, 117, 116, 32, 45, 48, 32, 52], [112, 97, 115, 115, 32, 49], [116, 105, 99, 107, 32, 49, 32]]
def badsV : Array Value := (badsM.map fun b => Value.string ⟨(b ++ [10]).toArray⟩).toArray
theorem bads_ok : (badsM.all fun b => (eventM (splitc 32 b)).isNone && !b.contains 10 && decide (b.length ≤ 16)) = true := by decide +kernel
theorem bad_ok {b : List UInt8} (h : b ∈ badsM) : eventM (splitc 32 b) = none ∧ (10 : UInt8) ∉ b ∧ b.length ≤ 16 := by
  have := List.all_eq_true.1 bads_ok b h
  simp only [Bool.and_eq_true, Option.isNone_iff_eq_none, Bool.not_eq_true', decide_eq_true_eq] at this
  obtain ⟨⟨h1, h2⟩, h3⟩ := this
  refine ⟨h1, fun hm => ?_, h3⟩
  rw [List.contains_iff_mem.2 hm] at h2
  cases h2
theorem anyNo_app (a b : List EV) : anyNo (a ++ b) = (anyNo a || anyNo b) := by unfold anyNo; rw [List.any_append]
theorem textM_app (c : List Int) (a b : List EV) : textM c (a ++ b) = textM c a ++ b.flatMap lineD := by unfold textM; rw [List.flatMap_append, List.append_assoc]
theorem textM_drop (c : List Int) (l : List EV) : (textM c l).drop ((headX c).length + 1) = l.flatMap lineD := by
  unfold textM
  rw [show headM c = headX c ++ [10] from rfl, List.append_assoc]
  rw [show (headX c).length + 1 = (headX c ++ [10]).length by simp, ← List.append_assoc, List.drop_left]
theorem flat_lines (l : List EV) (h : anyNo l = false) : l.flatMap lineD = ((l.map lineX).map (· ++ [10])).flatten := by
  have h1 := textM_lines [] l h
  unfold textM at h1
  rw [List.map_cons, List.flatten_cons] at h1
  exact List.append_cancel_left h1
theorem goL_bad (c : List Int) (b : List UInt8) (r : List (List UInt8)) (hb : eventM (splitc 32 b) = none) : ∀ (l : List EV) (i : Nat) (acc : List EV), (∀ e ∈ l, e.Ok) → anyNo l = false → goL (i + 1) (l.map lineX ++ b :: r) c acc = .error (((i + l.length : Nat) : Int) + 2, 12)
  | [], i, acc, _, _ => by
    show goL (i + 1) (b :: r) c acc = _
    rw [goL, hb]
    simp
  | e :: l, i, acc, ho, hn => by
    unfold anyNo at hn
    rw [List.any_cons, Bool.or_eq_false_iff] at hn
    rw [List.map_cons, List.cons_append, goL, eventM_lineX (ho e (by simp)) (by have := hn.1; cases h : findD e.d with | some s => rfl | none => rw [h] at this; simp at this)]
    simp only
    rw [goL_bad c b r hb l (i + 1) (acc ++ [spareE e]) (fun x hx => ho x (List.mem_cons_of_mem _ hx)) hn.2, List.length_cons, show i + 1 + l.length = i + (l.length + 1) by omega]
/-- The good lines together. -/
theorem parse_both {c : List Int} {l1 l2 : List EV} (hc : c.length = 17) (hi : ∀ x ∈ c, In64 x) (ho : ∀ e ∈ l1 ++ l2, e.Ok) (h1 : anyNo l1 = false) (h2 : anyNo l2 = false) (hl : (l1 ++ l2).length ≤ 2047) (ht : (textM c l1 ++ l2.flatMap lineD).length ≤ 65536) :
    parseM (textM c l1 ++ l2.flatMap lineD) = .ok (c, (l1 ++ l2).map spareE) := by
  rw [← textM_app] at ht ⊢
  exact parse_print hc hi ho (printM_ok (by rw [anyNo_app, h1, h2]; rfl) (by omega) (by omega))
/-- .. and with one among them that is not so. -/
theorem parse_bad {c : List Int} {l1 l2 : List EV} {b : List UInt8} (hb : b ∈ badsM) (hc : c.length = 17) (hi : ∀ x ∈ c, In64 x) (ho : ∀ e ∈ l1, e.Ok) (h1 : anyNo l1 = false) (h2 : anyNo l2 = false) (hl : l1.length + l2.length ≤ 2000)
    (ht : (textM c l1 ++ (b ++ [10]) ++ l2.flatMap lineD).length ≤ 65536) :
    parseM (textM c l1 ++ (b ++ [10]) ++ l2.flatMap lineD) = .error ((l1.length : Int) + 2, 12) := by
  obtain ⟨b1, b2, b3⟩ := bad_ok hb
  have hs : splitc 10 (textM c l1 ++ (b ++ [10]) ++ l2.flatMap lineD) = (headX c :: (l1.map lineX ++ b :: l2.map lineX)) ++ [[]] := by
    rw [textM_lines c l1 h1, flat_lines l2 h2]
    have := splitc_lines 10 (headX c :: (l1.map lineX ++ b :: l2.map lineX)) [] (fun x hx => by
      rcases List.mem_cons.1 hx with rfl | hx
      · exact headX_no10 c
      · rcases List.mem_append.1 hx with hx | hx
        · obtain ⟨e, _, rfl⟩ := List.mem_map.1 hx; exact lineX_no10 e
        · rcases List.mem_cons.1 hx with rfl | hx
          · exact b2
          · obtain ⟨e, _, rfl⟩ := List.mem_map.1 hx; exact lineX_no10 e) (by simp)
    rw [List.append_nil] at this
    rw [← this]
    congr 1
    simp [List.append_assoc]
  generalize textM c l1 ++ (b ++ [10]) ++ l2.flatMap lineD = t at hs ht ⊢
  have hn : lineN t = l1.length + l2.length + 2 := by unfold lineN; rw [hs]; simp; omega
  have hla : lastL t = [] := by
    unfold lastL
    rw [hn, hs, List.getD_eq_getElem?_getD, List.getElem?_append_right (by simp; omega)]
    simp
    rw [show l1.length + l2.length + 1 - (l1.length + (l2.length + 1)) = 0 by omega]
    rfl
  unfold parseM
  rw [hn, hla, if_neg (by
    unfold longB
    simp
    omega), hs]
  rw [List.take_left' (by simp; omega), goL, configM_headX c hc hi]
  simp only
  rw [show (1 : Nat) = 0 + 1 from rfl, goL_bad c b _ b1 l1 0 [] ho h1, Nat.zero_add]
  rfl
end Go.Proofs.YtodlbajpcbdbaaaDoor
namespace Go.Proofs.YtodlbajpcbdbaaaDoor
open Go.RowKit Go.Shelf
set_option linter.unusedVariables false
set_option linter.unusedSimpArgs false
set_option maxRecDepth 100000

def ACap (A : Option Addr) (n cap : Nat) : Prop := (A = none ∧ n = 0 ∧ cap = 0) ∨ (A ≠ none ∧ n ≤ cap ∧ cap ≤ maxLen)
def loA (A : Option Addr) (cap : Nat) : Option Addr := if cap = 0 then A else A.map (·.add (0 * 8))
def hiA (A : Option Addr) (k cap : Nat) : Option Addr := if cap = k then A else A.map (·.add (k * 8))
theorem size_ev (w : World) : (sizeOf (Tryd.prog.elem 41)).run Tryd.prog w = .ok 8 w := by kernel_rfl
theorem ev_lo (w : World) (A : Option Addr) (n cap k : Nat) (hk : k ≤ n) (hc : ACap A n cap) :
    (Instr.slice 41 (.slice A n cap) none (some (.int .i64 (k : Int))) none).run Tryd.prog w = .ok (.slice (loA A cap) k cap) w := by
  have hkc : k ≤ cap := by rcases hc with ⟨_, h1, h2⟩ | ⟨_, h1, _⟩ <;> omega
  rw [run_slice_h w _ A n cap (by kernel_rfl) .i64 (k : Int) (by omega) (by omega), size_ev]
  simp only [Result.andThen_ok, sliced, Int.toNat_natCast, Nat.sub_zero]
  rfl
theorem ev_hi (w : World) (A : Option Addr) (n cap k : Nat) (hk : k ≤ n) (hc : ACap A n cap) :
    (Instr.slice 41 (.slice A n cap) (some (.int .i64 (k : Int))) none none).run Tryd.prog w = .ok (.slice (hiA A k cap) (n - k) (cap - k)) w := by
  rw [run_slice_l w _ A n cap (by kernel_rfl) .i64 (k : Int) (by omega) (by omega), size_ev]
  simp only [Result.andThen_ok, sliced, Int.toNat_natCast]
  rfl
theorem EvA.lo {w : World} {A : Option Addr} {l : List EV} {ss : List Sl} {cap : Nat} (h : EvA w A l ss) (hc : ACap A l.length cap) (k : Nat) (hk : k ≤ l.length) : EvA w (loA A cap) (l.take k) (ss.take k) := by
  refine ⟨by rw [List.length_take, List.length_take, h.len], ?_, fun i e s hi hs => ?_, fun e he => h.ok e (List.mem_of_mem_take he)⟩
  · rcases h.cell with h0 | ⟨b, off, hA, hcl⟩
    · left; rw [h0]; simp
    · by_cases hk0 : k = 0
      · left; rw [hk0]; simp
      · right
        subst hA
        have hcap : cap ≠ 0 := by rcases hc with ⟨h1, _⟩ | ⟨_, h1, _⟩; cases h1; omega
        refine ⟨b, off, by unfold loA; rw [if_neg hcap]; simp [Go.WideShapes.add_plain], fun i e s hi hs j v hv => ?_⟩
        rw [List.getElem?_take] at hi hs
        split at hi
        · rename_i hik
          rw [if_pos hik] at hs
          exact hcl i e s hi hs j v hv
        · cases hi
  · rw [List.getElem?_take] at hi hs
    split at hi
    · rename_i hik
      rw [if_pos hik] at hs
      exact h.bts i e s hi hs
    · cases hi
theorem EvA.hi {w : World} {A : Option Addr} {l : List EV} {ss : List Sl} {cap : Nat} (h : EvA w A l ss) (hc : ACap A l.length cap) (k : Nat) (hk : k ≤ l.length) : EvA w (hiA A k cap) (l.drop k) (ss.drop k) := by
  refine ⟨by rw [List.length_drop, List.length_drop, h.len], ?_, fun i e s hi hs => ?_, fun e he => h.ok e (List.mem_of_mem_drop he)⟩
  · rcases h.cell with h0 | ⟨b, off, hA, hcl⟩
    · left; rw [h0]; simp
    · by_cases hk0 : k = l.length
      · left; rw [hk0]; simp
      · right
        subst hA
        have hcap : cap ≠ k := by rcases hc with ⟨h1, _⟩ | ⟨_, h1, _⟩; cases h1; omega
        refine ⟨b, off + k * 8, by unfold hiA; rw [if_neg hcap]; simp [Go.WideShapes.add_plain], fun i e s hi hs j v hv => ?_⟩
        rw [List.getElem?_drop] at hi hs
        have := hcl (k + i) e s hi hs j v hv
        rwa [show off + (k + i) * 8 + j = off + k * 8 + i * 8 + j by omega] at this
  · rw [List.getElem?_drop] at hi hs
    exact h.bts (k + i) e s hi hs
/-- What Print hands out, as two values. -/
def prS (c : List Int) (l : List EV) : ByteArray := match printM c l with | .ok t => ⟨t.toArray⟩ | .error _ => ByteArray.empty
def prN (c : List Int) (l : List EV) : Int := match printM c l with | .ok _ => 0 | .error x => x
theorem PrPost.pair {c : List Int} {l : List EV} {e : Ending} (h : PrPost c l e) : e = .returned (.tuple #[.string (prS c l), .int .i64 (prN c l)]) := by
  unfold PrPost at h
  unfold prS prN
  cases hp : printM c l <;> (rw [hp] at h; exact h)
theorem prN_zero {c : List Int} {l : List EV} (h : prN c l = 0) : printM c l = .ok (textM c l) ∧ prS c l = ⟨(textM c l).toArray⟩ := by
  cases hp : printM c l with
  | ok t =>
    obtain ⟨_, _, _, rfl⟩ := printM_inv hp
    exact ⟨rfl, by unfold prS; rw [hp]⟩
  | error x =>
    exfalso
    unfold prN at h
    rw [hp] at h
    unfold printM at hp
    split at hp
    · cases hp; cases h
    · split at hp
      · cases hp; cases h
      · split at hp <;> cases hp
        cases h
theorem text_at {c : List Int} {m : List EV} {s : ByteArray} {K q : Nat} (h : (⟨(textM c m).toArray⟩ : ByteArray) = s) (hK : (headX c).length = K) (hq : q < K) (hs : q < s.size) : ((s[q].toNat : Int) != 10) = true := by
  subst h
  have h1 : (textM c m)[q]? = (headX c)[q]? := by
    unfold textM
    rw [show headM c = headX c ++ [10] from rfl, List.append_assoc, List.getElem?_append_left (by omega)]
  have h2 : (textM c m)[q]'hs = (headX c)[q]'(by omega) := by
    rw [List.getElem?_eq_getElem hs, List.getElem?_eq_getElem (by omega)] at h1
    exact Option.some.inj h1
  have h3 : (headX c)[q]'(by omega) ≠ 10 := fun e => headX_no10 c (by rw [← e]; exact List.getElem_mem _)
  show ((((textM c m)[q]'hs).toNat : Int) != 10) = true
  rw [h2]
  rw [bne_iff_ne]
  intro e
  exact h3 (UInt8.toNat.inj (by rw [show (10 : UInt8).toNat = 10 from rfl]; omega))
theorem text_end {c : List Int} {m : List EV} {s : ByteArray} {K : Nat} (h : (⟨(textM c m).toArray⟩ : ByteArray) = s) (hK : (headX c).length = K) (hs : K < s.size) : ((s[K].toNat : Int) != 10) = false := by
  subst h
  have h1 : (textM c m)[K]? = some 10 := by
    unfold textM
    rw [show headM c = headX c ++ [10] from rfl, List.append_assoc, List.getElem?_append_right (by omega), hK]
    simp
  have h2 : (textM c m)[K]'hs = 10 := by
    rw [List.getElem?_eq_getElem hs] at h1
    exact Option.some.inj h1
  show ((((textM c m)[K]'hs).toNat : Int) != 10) = false
  rw [h2]
  rfl
theorem text_rest {c : List Int} {m : List EV} {s : ByteArray} {K k1 : Nat} (h : (⟨(textM c m).toArray⟩ : ByteArray) = s) (hK : (headX c).length = K) (h1 : K + 1 = k1) : (s.extract k1 s.size).bytes = m.flatMap lineD := by
  have h2 := textM_drop c m
  rw [hK, h1] at h2
  rw [← h2]
  subst h
  unfold ByteArray.bytes
  rw [ByteArray.data_extract, Array.toList_extract]
  show ((textM c m).drop k1).take ((textM c m).toArray.size - k1) = _
  rw [List.take_of_length_le (by rw [List.length_drop]; simp)]
theorem u16_and15 (W : Int) (h : 0 ≤ W ∧ W < 65536) : bits .and .u16 W 15 = W % 16 := by
  have key : (BitVec.ofInt 16 W &&& BitVec.ofInt 16 15).toNat = (W % ((2 ^ 16 : Nat) : Int)).toNat % 2 ^ 4 := by
    rw [BitVec.toNat_and, BitVec.toNat_ofInt, show (BitVec.ofInt 16 15).toNat = 2 ^ 4 - 1 from by decide, Nat.and_two_pow_sub_one_eq_mod]
  show IntKind.u16.wrap ((BitVec.ofInt 16 W &&& BitVec.ofInt 16 15).toNat : Nat) = W % 16
  rw [key]
  have h1 : ((W % ((2 ^ 16 : Nat) : Int)).toNat % 2 ^ 4 : Nat) = (W % 16).toNat := by omega
  rw [h1]
  have h2 : ((W % 16).toNat : Int) = W % 16 := by omega
  rw [h2]
  unfold IntKind.wrap
  simp [IntKind.bits, IntKind.signed]
  omega
/-- A new block's address, laid behind so many. -/
def NewB (N : Nat) (t : TypeId) (cs : Array Value) : World → Value → Prop := fun w v => ∃ b, v = .pointer (some ⟨b, 0, none⟩) ∧ Blk w b cs t ∧ N ≤ b
theorem NewB.keeps {N : Nat} {t : TypeId} {cs : Array Value} : Keeps [] (NewB N t cs) := fun _ _ _ f ⟨b, e, hb, h⟩ => ⟨b, e, hb.fr f (by simp), h⟩
/-- A slice of events, as a fact of a value. -/
def EvF (l : List EV) : World → Value → Prop := fun w v => ∃ (sl : Sl) (N : Nat), v = .slice sl.A sl.n sl.c ∧ ERow N 0 sl l w ∧ N ≤ w.heap.size
theorem EvF.keeps {l : List EV} : Keeps [] (EvF l) := fun _ _ _ f ⟨sl, N, e, h, hN⟩ => ⟨sl, N, e, ERow.fr f h, Nat.le_trans hN f.size⟩
end Go.Proofs.YtodlbajpcbdbaaaDoor
namespace Go.Proofs.YtodlbajpcbdbaaaDoor
open Go.RowKit Go.Shelf
set_option linter.unusedVariables false
set_option linter.unusedSimpArgs false
set_option maxRecDepth 100000

set_option maxRecDepth 100000 in
set_option maxHeartbeats 8000000 in
theorem r28_SameEvent (w : World) (e : EV) (s1 s2 : Sl) (N1 N2 : Nat) (h1 : Bts N1 w s1 (bytesI e.b)) (h2 : Bts N2 w s2 (bytesI e.b)) :
    Calls Tryd.prog 26 #[.agg (e.arr s1), .agg (e.arr s2)] w fun r w' => r = .returned (.bool true) ∧ Fr [] w w' := by
  have hc1 := conv_bts ((h1.fr ((Fr.refl [] w).alloc (.cells (e.arr s1) 55))).fr ((Fr.refl [] _).alloc (.cells (e.arr s2) 55)))
  have hc2 := conv_bts ((h2.fr ((Fr.refl [] w).alloc (.cells (e.arr s1) 55))).fr ((Fr.refl [] _).alloc (.cells (e.arr s2) 55)))
  obtain ⟨d, fr, tu, n, sap, far, po, b⟩ := e
  clear h1 h2
  go_enter Tryd.func26, Tryd.ntmps26
  go_wp2
  go_ret
  exact ⟨rfl, ((Fr.refl _ _).alloc _).alloc _⟩
theorem build_ev (d fr tu n sap far : Int) (po : Bool) (A : Option Addr) (m c : Nat) (w : World) : (Instr.build 55 #[(0, .int .i64 d), (1, .int .i64 fr), (2, .int .i64 tu), (3, .int .i64 n), (4, .int .i64 sap), (5, .int .i64 far), (6, .bool po), (7, .slice A m c)]).run Tryd.prog w = .ok (.agg #[.int .i64 d, .int .i64 fr, .int .i64 tu, .int .i64 n, .int .i64 sap, .int .i64 far, .bool po, .slice A m c]) w := by kernel_rfl
theorem wp_build {P : Program} {o : Oper} {a : Act} {w : World} {K : Act → World → Prop} {Q : Exit → Act → World → Prop} (t : TypeId) (parts : Array (Nat × Operand)) (v : Value) (ho : o.op = .build t parts)
    (hr : (Instr.build t (parts.map fun x => (x.1, a.eval x.2))).run P w = .ok v w) (h : K (a.put o.dst v) w) : o.wp P a w K Q := by
  unfold Oper.wp execOp
  simp only [ho, Sem.run_bind, Sem.run_pure, hr, Result.andThen_ok]
  exact h
/-- A row of the reference's events. -/
def RRow (N B : Nat) (s : Sl) (l : List EV) (w : World) : Prop := RowG 55 8 (repE N) B w s l
theorem RRow.fr {N B : Nat} {s : Sl} {l : List EV} {w w' : World} (f : Fr [] w w') (h : RRow N B s l w) : RRow N B s l w' := RowG.fr (fun _ _ ⟨s, e, hb⟩ => ⟨s, e, hb.fr f⟩) h f
theorem RRow.get {N B : Nat} {s : Sl} {l : List EV} {w : World} (h : RRow N B s l w) {k : Nat} {e : EV} (hk : l[k]? = some e) :
    ∃ b sd, s.A = some ⟨b, 0, none⟩ ∧ Bts N w sd (bytesI e.b) ∧ w.cell? ⟨b, k * 8, none⟩ = some (.int .i64 e.d) ∧ w.cell? ⟨b, k * 8 + 1, none⟩ = some (.int .i64 e.fr) ∧ w.cell? ⟨b, k * 8 + 2, none⟩ = some (.int .i64 e.to) ∧ w.cell? ⟨b, k * 8 + 3, none⟩ = some (.int .i64 e.n) ∧ w.cell? ⟨b, k * 8 + 4, none⟩ = some (.int .i64 e.sap) ∧ w.cell? ⟨b, k * 8 + 5, none⟩ = some (.int .i64 e.far) ∧ w.cell? ⟨b, k * 8 + 6, none⟩ = some (.bool e.po) ∧ w.cell? ⟨b, k * 8 + 7, none⟩ = some (.slice sd.A sd.n sd.c) := by
  obtain ⟨b, x, h1, h2, ⟨sd, rfl, hb⟩, hc⟩ := RowG.get h hk
  exact ⟨b, sd, h1, hb, hc 0 (by decide), hc 1 (by decide), hc 2 (by decide), hc 3 (by decide), hc 4 (by decide), hc 5 (by decide), hc 6 (by decide), hc 7 (by decide)⟩
set_option maxRecDepth 100000 in
set_option maxHeartbeats 8000000 in
theorem law28_same (w : World) (l : List EV) (sl1 sl2 : Sl) (N1 B1 N2 B2 : Nat) (h1 : ERow N1 B1 sl1 l w) (h2 : RRow N2 B2 sl2 l w) (hl : l.length ≤ 1000000) :
    Calls Tryd.prog 11 #[.slice sl1.A sl1.n sl1.c, .slice sl2.A sl2.n sl2.c] w fun r w' => r = .returned (.bool true) ∧ Fr [] w w' := by
  have hn1 := RowG.n h1
  have hn2 := RowG.n h2
  rw [hn1, hn2]
  have H := Lib.hid (And.intro h1 h2)
  clear h1 h2 hn1 hn2
  go_enter Tryd.func11, Tryd.ntmps11
  go_wp2
  go_loopw [5] (fun i wr => ∃ k : Nat, i = .int .i64 (k : Int) ∧ k ≤ l.length ∧ Fr [] w wr) (fun i _ => l.length - (intOf i).toNat)
  case atStart => exact ⟨0, rfl, by omega, Fr.refl _ _⟩
  case round =>
    obtain ⟨k, rfl, hk, hf⟩ := hrel
    have HK := Lib.hid hf
    by_cases hlt : k < l.length
    · have d1 : (k : Int) < (l.length : Int) := by omega
      have wq : IntKind.i64.wrap ((k : Int) + 1) = (k : Int) + 1 := IntWalk.i64_in _ (by omega)
      obtain ⟨e, he⟩ : ∃ e, l[k]? = some e := ⟨_, List.getElem?_eq_getElem hlt⟩
      obtain ⟨b1, s1, hA1, ht1, x0, x1, x2, x3, x4, x5, x6, x7⟩ := (ERow.fr hf H.out.1).get he
      obtain ⟨b2, s2, hA2, ht2, y0, y1, y2, y3, y4, y5, y6, y7⟩ := (RRow.fr hf H.out.2).get he
      have k1 : ∀ wx, Fr [] wr wx → wx.cell? ⟨b1, k * 8, none⟩ = some (.int .i64 e.d) ∧ wx.cell? ⟨b1, k * 8 + 1, none⟩ = some (.int .i64 e.fr) ∧ wx.cell? ⟨b1, k * 8 + 2, none⟩ = some (.int .i64 e.to) ∧ wx.cell? ⟨b1, k * 8 + 3, none⟩ = some (.int .i64 e.n) ∧ wx.cell? ⟨b1, k * 8 + 4, none⟩ = some (.int .i64 e.sap) ∧ wx.cell? ⟨b1, k * 8 + 5, none⟩ = some (.int .i64 e.far) ∧ wx.cell? ⟨b1, k * 8 + 6, none⟩ = some (.bool e.po) ∧ wx.cell? ⟨b1, k * 8 + 7, none⟩ = some (.slice s1.A s1.n s1.c) := fun wx f => ⟨f.cell x0 (by simp), f.cell x1 (by simp), f.cell x2 (by simp), f.cell x3 (by simp), f.cell x4 (by simp), f.cell x5 (by simp), f.cell x6 (by simp), f.cell x7 (by simp)⟩
      have K2 : Hid (∀ wx, Fr [] wr wx → wx.cell? ⟨b2, k * 8, none⟩ = some (.int .i64 e.d) ∧ wx.cell? ⟨b2, k * 8 + 1, none⟩ = some (.int .i64 e.fr) ∧ wx.cell? ⟨b2, k * 8 + 2, none⟩ = some (.int .i64 e.to) ∧ wx.cell? ⟨b2, k * 8 + 3, none⟩ = some (.int .i64 e.n) ∧ wx.cell? ⟨b2, k * 8 + 4, none⟩ = some (.int .i64 e.sap) ∧ wx.cell? ⟨b2, k * 8 + 5, none⟩ = some (.int .i64 e.far) ∧ wx.cell? ⟨b2, k * 8 + 6, none⟩ = some (.bool e.po) ∧ wx.cell? ⟨b2, k * 8 + 7, none⟩ = some (.slice s2.A s2.n s2.c)) := Lib.hid fun wx f => ⟨f.cell y0 (by simp), f.cell y1 (by simp), f.cell y2 (by simp), f.cell y3 (by simp), f.cell y4 (by simp), f.cell y5 (by simp), f.cell y6 (by simp), f.cell y7 (by simp)⟩
      have HT := Lib.hid (And.intro ht1 ht2)
      rw [hA1, hA2]
      clear hf x0 x1 x2 x3 x4 x5 x6 x7 y0 y1 y2 y3 y4 y5 y6 y7 ht1 ht2 hA1 hA2 he
      go_upto_region 6 with fail
      refine wp_region_keepsU [] [Is (.slice (some ⟨b1, 0, none⟩) l.length sl1.c), Is (.int .i64 (k : Int)), Is (.pointer (some ⟨b1, k * 8, none⟩)), Is (.pointer (some ⟨b1, k * 8, none⟩)), Is (.int .i64 e.d), Is (.slice (some ⟨b1, 0, none⟩) l.length sl1.c), Is (.int .i64 (k : Int)), Is (.pointer (some ⟨b1, k * 8, none⟩)), Is (.pointer (some ⟨b1, k * 8 + 1, none⟩)), Is (.int .i64 e.fr), Is (.slice (some ⟨b1, 0, none⟩) l.length sl1.c), Is (.int .i64 (k : Int)), Is (.pointer (some ⟨b1, k * 8, none⟩)), Is (.pointer (some ⟨b1, k * 8 + 2, none⟩)), Is (.int .i64 e.to), Is (.slice (some ⟨b1, 0, none⟩) l.length sl1.c), Is (.int .i64 (k : Int)), Is (.pointer (some ⟨b1, k * 8, none⟩)), Is (.pointer (some ⟨b1, k * 8 + 3, none⟩)), Is (.int .i64 e.n), Is (.slice (some ⟨b1, 0, none⟩) l.length sl1.c), Is (.int .i64 (k : Int)), Is (.pointer (some ⟨b1, k * 8, none⟩)), Is (.pointer (some ⟨b1, k * 8 + 4, none⟩)), Is (.int .i64 e.sap), Is (.slice (some ⟨b1, 0, none⟩) l.length sl1.c), Is (.int .i64 (k : Int)), Is (.pointer (some ⟨b1, k * 8, none⟩)), Is (.pointer (some ⟨b1, k * 8 + 5, none⟩)), Is (.int .i64 e.far), Is (.slice (some ⟨b1, 0, none⟩) l.length sl1.c), Is (.int .i64 (k : Int)), Is (.pointer (some ⟨b1, k * 8, none⟩)), Is (.pointer (some ⟨b1, k * 8 + 6, none⟩)), Is (.bool e.po), Is (.slice (some ⟨b1, 0, none⟩) l.length sl1.c), Is (.int .i64 (k : Int)), Is (.pointer (some ⟨b1, k * 8, none⟩)), Is (.pointer (some ⟨b1, k * 8 + 7, none⟩)), Is (.slice s1.A s1.n s1.c), Is (.agg (e.arr s1)), NewB wr.heap.size 55 #[.int .i64 0, .int .i64 0, .int .i64 0, .int .i64 0, .int .i64 0, .int .i64 0, .bool false, .slice none 0 0]] 42 (by kernel_rfl) (by kernel_rfl) (by kernel_rfl) (by kernel_rfl) (by kernel_rfl) (by kernel_rfl) ?hV ?hS ?hD
      case hV =>
        repeat (first | exact trivial | exact Is.keeps _ | exact Any.keeps | exact IsSl.keeps _ _ _ | exact NewB.keeps | refine And.intro ?_ ?_)
      case hS =>
        (repeat' (first | exact trivial | refine And.intro ?_ ?_))
        rotate_right 2
        · as_aux_lemma =>
            intro ac wx hf hs hp K hK
            simp only [zA, Region.binds, Nat.reduceAdd] at hp
            have e0 := hs 0 (by kernel_rfl)
            have e5 := hs 5 (by kernel_rfl)
            simp only [Array.getD_eq_getD_getElem?, List.getElem?_toArray, List.getElem?_cons_succ, List.getElem?_cons_zero, Option.getD_some] at e0 e5
            clear hs
            obtain ⟨q0, q1, q2, q3, q4, q5, q6, q7⟩ := hp
            refine wp_build 55 #[(0, Operand.tmp 22), (1, Operand.tmp 27), (2, Operand.tmp 32), (3, Operand.tmp 37), (4, Operand.tmp 42), (5, Operand.tmp 47), (6, Operand.tmp 52), (7, Operand.tmp 57)] (.agg (e.arr s1)) rfl ?_ ?_
            · rw [show (#[(0, Operand.tmp 22), (1, Operand.tmp 27), (2, Operand.tmp 32), (3, Operand.tmp 37), (4, Operand.tmp 42), (5, Operand.tmp 47), (6, Operand.tmp 52), (7, Operand.tmp 57)] : Array (Nat × Operand)).map (fun x => (x.1, ac.eval x.2)) = #[(0, Value.int .i64 e.d), (1, Value.int .i64 e.fr), (2, Value.int .i64 e.to), (3, Value.int .i64 e.n), (4, Value.int .i64 e.sap), (5, Value.int .i64 e.far), (6, Value.bool e.po), (7, Value.slice s1.A s1.n s1.c)] from by simp [Act.eval, q0, q1, q2, q3, q4, q5, q6, q7]]
              exact build_ev _ _ _ _ _ _ _ _ _ _ _
            refine hK.out _ _ (Fr.refl _ _) ?_
            simp only [nth]
            (unfold Is; rfl)
        all_goals (as_aux_lemma =>
          intro ac wx hf hs hp K hK
          simp only [zA, Region.binds, Nat.reduceAdd] at hp
          have e0 := hs 0 (by kernel_rfl)
          have e5 := hs 5 (by kernel_rfl)
          simp only [Array.getD_eq_getD_getElem?, List.getElem?_toArray, List.getElem?_cons_succ, List.getElem?_cons_zero, Option.getD_some] at e0 e5
          clear hs
          obtain ⟨cx0, cx1, cx2, cx3, cx4, cx5, cx6, cx7⟩ := k1 wx hf
          have HF := Lib.hid hf
          clear hf k1
          (try simp only [hp])
          go_simp
          try dsimp only
          first | (refine hK.out _ _ ?_ ?_; (first | exact Fr.refl _ _ | exact (Fr.refl _ _).alloc _); (simp only [nth]; (first | (unfold Is; rfl) | (unfold Any; exact trivial) | exact IsSl.new _ _ _ _ | exact ⟨_, rfl, Blk.new _ _ _, HF.out.size⟩))))
      case hD =>
        as_aux_lemma =>
        intro xv wx hf hp
        simp only [List.take_succ_cons, List.take_zero, List.drop_succ_cons, List.drop_zero, fill, List.setIfInBounds_toArray, List.set_cons_zero, List.set_cons_succ, Nat.reduceAdd, Act.put]
        simp only [List.range_eq_range', List.range'_succ, List.range'_zero, Nat.zero_add, Nat.add_zero, Nat.reduceAdd, holds, nth, Is, Any, true_and, and_true] at hp
        obtain ⟨-, -, -, -, -, -, -, -, -, -, -, -, -, -, -, -, -, -, -, -, -, -, -, -, -, -, -, -, -, -, -, -, -, -, -, -, -, -, -, -, p40, p41⟩ := hp
        obtain ⟨F, e41, hbF, hNF⟩ := p41
        simp only [p40, e41]
        clear p40 e41 k1
        have HF := Lib.hid (And.intro hf (And.intro hbF hNF))
        clear hf hbF hNF
        refine wpList_store_row rfl 55 (.tmp 6) (.tmp 58) rfl F (e.arr s1) rfl rfl 55 #[.int .i64 0, .int .i64 0, .int .i64 0, .int .i64 0, .int .i64 0, .int .i64 0, .bool false, .slice none 0 0] HF.out.2.1 (by kernel_rfl) rfl (ev_one _ _) ?_
        obtain ⟨w7, hw7⟩ : ∃ w7, wx.setRow F (e.arr s1) = w7 := ⟨_, rfl⟩
        have H7 : Hid (Fr [] wr w7 ∧ Blk w7 F (e.arr s1) 55) := Lib.hid (by rw [← hw7]; exact ⟨HF.out.1.setRow _ (.inr HF.out.2.2), HF.out.2.1.setRow⟩)
        rw [hw7]
        clear hw7
        have HFB : Hid (∀ wx, Fr [] w7 wx → Blk wx F (e.arr s1) 55) := Lib.hid fun wx f => H7.out.2.fr f (by simp)
        have k2 : ∀ wx, Fr [] w7 wx → wx.cell? ⟨b2, k * 8, none⟩ = some (.int .i64 e.d) ∧ wx.cell? ⟨b2, k * 8 + 1, none⟩ = some (.int .i64 e.fr) ∧ wx.cell? ⟨b2, k * 8 + 2, none⟩ = some (.int .i64 e.to) ∧ wx.cell? ⟨b2, k * 8 + 3, none⟩ = some (.int .i64 e.n) ∧ wx.cell? ⟨b2, k * 8 + 4, none⟩ = some (.int .i64 e.sap) ∧ wx.cell? ⟨b2, k * 8 + 5, none⟩ = some (.int .i64 e.far) ∧ wx.cell? ⟨b2, k * 8 + 6, none⟩ = some (.bool e.po) ∧ wx.cell? ⟨b2, k * 8 + 7, none⟩ = some (.slice s2.A s2.n s2.c) := fun wx f => K2.out wx (H7.out.1.tr f)
        have HSE : Hid (∀ wx, Fr [] w7 wx → Calls Tryd.prog 26 #[.agg (e.arr s1), .agg (e.arr s2)] wx fun r w' => r = .returned (.bool true) ∧ Fr [] wx w') := Lib.hid fun wx f => r28_SameEvent wx e s1 s2 N1 N2 ((HT.out.1.fr H7.out.1).fr f) ((HT.out.2.fr H7.out.1).fr f)
        go_upto_region 7 with fail
        refine wp_region_keepsU [] [Is (.agg (e.arr s1)), Is (.slice (some ⟨b2, 0, none⟩) l.length sl2.c), Is (.int .i64 (k : Int)), Is (.pointer (some ⟨b2, k * 8, none⟩)), Is (.agg (e.arr s2)), Is (.bool true), Is (.bool false)] 7 (by kernel_rfl) (by kernel_rfl) (by kernel_rfl) (by kernel_rfl) (by kernel_rfl) (by kernel_rfl) ?hV ?hS ?hD
        case hV =>
          repeat (first | exact trivial | exact Is.keeps _ | exact Any.keeps | exact IsSl.keeps _ _ _ | refine And.intro ?_ ?_)
        case hS =>
          (repeat' (first | exact trivial | refine And.intro ?_ ?_))
          · as_aux_lemma =>
              intro ac wx hf hs hp K hK
              simp only [zA, Region.binds, Nat.reduceAdd] at hp
              have e1 := hs 1 (by kernel_rfl)
              have e5 := hs 5 (by kernel_rfl)
              have e6 := hs 6 (by kernel_rfl)
              simp only [Array.getD_eq_getD_getElem?, List.getElem?_toArray, List.getElem?_cons_succ, List.getElem?_cons_zero, Option.getD_some] at e1 e5 e6
              clear hs
              refine wp_load_row 55 (.tmp 6) rfl F (by simpa [Act.eval] using e6) 55 (e.arr s1) (0, 0) _ (HFB.out wx hf) Tryd.underlying55 rfl (by kernel_rfl) ?_
              refine hK.out _ _ (Fr.refl _ _) ?_
              simp only [nth]
              (unfold Is; rfl)
          all_goals (as_aux_lemma =>
            intro ac wx hf hs hp K hK
            simp only [zA, Region.binds, Nat.reduceAdd] at hp
            have e1 := hs 1 (by kernel_rfl)
            have e5 := hs 5 (by kernel_rfl)
            have e6 := hs 6 (by kernel_rfl)
            simp only [Array.getD_eq_getD_getElem?, List.getElem?_toArray, List.getElem?_cons_succ, List.getElem?_cons_zero, Option.getD_some] at e1 e5 e6
            clear hs
            obtain ⟨cx0, cx1, cx2, cx3, cx4, cx5, cx6, cx7⟩ := k2 wx hf
            have hse := HSE.out wx hf
            clear hf k2
            (try simp only [hp])
            go_simp
            try dsimp only
            first | (refine hK.out _ _ ?_ ?_; (first | exact Fr.refl _ _ | exact (Fr.refl _ _).alloc _); (simp only [nth]; (first | (unfold Is; rfl) | (unfold Any; exact trivial) | exact IsSl.new _ _ _ _))) | (go_at_call 26; refine hse.mono ?_; rintro e9 w' ⟨rfl, f⟩; refine hK.out _ _ f ?_; simp only [nth]; (unfold Is; rfl)))
        case hD =>
          as_aux_lemma =>
          intro xv wx hf hp
          simp only [List.take_succ_cons, List.take_zero, List.drop_succ_cons, List.drop_zero, fill, List.setIfInBounds_toArray, List.set_cons_zero, List.set_cons_succ, Nat.reduceAdd, Act.put]
          simp only [List.range_eq_range', List.range'_succ, List.range'_zero, Nat.zero_add, Nat.add_zero, Nat.reduceAdd, holds, nth, Is, Any, true_and, and_true] at hp
          obtain ⟨-, -, -, -, -, -, p6⟩ := hp
          simp only [p6]
          have HF8 := Lib.hid (HK.out.tr (H7.out.1.tr hf))
          clear p6 hf k2
          go_wp2
          go_roundw
          case rel => exact ⟨k + 1, by go_num, by omega, HF8.out⟩
          case measure => simp [intOf]; omega
    · have hke : k = l.length := by omega
      subst hke
      clear hf
      go_wp2
      go_ret
      exact ⟨rfl, HK.out⟩
end Go.Proofs.YtodlbajpcbdbaaaDoor
namespace Go.Proofs.YtodlbajpcbdbaaaDoor
open Go.RowKit Go.Shelf
set_option linter.unusedVariables false
set_option linter.unusedSimpArgs false
set_option maxRecDepth 100000

theorem wp_bin {P : Program} {o : Oper} {a : Act} {w : World} {K : Act → World → Prop} {Q : Exit → Act → World → Prop} (op : BinOp) (t : TypeId) (x y : Operand) (t2 : TypeId) (v : Value) (ho : o.op = .binOp op t x y t2)
    (hg : (eqGuard op t x y (a.eval x) (a.eval y)).run P w = .ok () w) (hr : (binOp op t (a.eval x) (a.eval y)).run P w = .ok v w) (h : K (a.put o.dst v) w) : o.wp P a w K Q := by
  unfold Oper.wp execOp
  simp only [ho, Sem.run_bind, Sem.run_pure, hg, hr, Result.andThen_ok]
  exact h
theorem cfg_guard (x y : Operand) (A B : Array Value) (w : World) : (eqGuard .eql 30 x y (.agg A) (.agg B)).run Tryd.prog w = .ok () w := by kernel_rfl
theorem printM_err {c : List Int} {l : List EV} {x : Int} (h : printM c l = .error x) : (x == 0) = false := by
  unfold printM at h
  split at h
  · cases h; rfl
  · split at h
    · cases h; rfl
    · split at h
      · cases h; rfl
      · cases h
set_option maxRecDepth 100000 in
set_option maxHeartbeats 16000000 in
theorem walk_ScriptPrints (w : World) (c : List Int) (A : Option Addr) (cap : Nat) (l : List EV) (ss : List Sl) (hE : Env w) (hc : c.length = 17) (hi : ∀ x ∈ c, In64 x) (h : EvA w A l ss) (hl : l.length ≤ 9223372036854775807) :
    Calls Tryd.prog 4 #[.agg (intsV c), .slice A l.length cap] w fun e w' => e = .returned (.bool true) ∧ Fr [] w w' := by
  obtain ⟨i0, hi0, hz0, hz1, hz2⟩ := info_parts (show (Tryd.prog.info? 55).map (fun i => (i.zero, i.size, i.bytes)) = some (some (.agg ((EV.zero 0).arr Sl.nil)), 8, 80) by kernel_rfl)
  have hun : Tryd.prog.underlying 41 = some (.slice 55) := Tryd.underlying41
  have hA := law28_awake (w.alloc (.cells (intsV c) 40)) (hE.fr0 ((Fr.refl [] w).alloc _))
  have HE := Lib.hid (And.intro hE (And.intro hi h))
  have HC17 := Lib.hid hc
  have hss0 : (intsV c).size = 17 := by simp [intsV, hc]
  have HSS := Lib.hid hss0
  have hb0 : Blk (w.alloc (.cells (intsV c) 40)) w.heap.size (intsV c) 40 := Blk.new _ _ _
  have HB := Lib.hid hb0
  clear hE hi h hb0 hc hss0
  go_enter Tryd.func4, Tryd.ntmps4
  go_wp2_with fail
  refine hA.mono ?_
  rintro e w1 ⟨rfl, f1⟩
  obtain ⟨R, hR⟩ : ∃ R, w.heap.size = R := ⟨_, rfl⟩
  have H1 : Hid (Blk w1 R (intsV c) 40 ∧ Fr [] w w1 ∧ EvA w1 A l ss) := Lib.hid ⟨by rw [← hR]; exact HB.out.fr f1 (by simp), ((Fr.refl [] w).alloc _).tr f1, (HE.out.2.2.fr ((Fr.refl [] w).alloc _)).fr f1⟩
  rw [hR]
  clear f1 hA hR
  have hrm := law25_Room w1 A cap l ss 200 H1.out.2.2 hl
  go_wp2_with fail
  refine hrm.mono ?_
  rintro e w2 ⟨rfl, f2⟩
  have H2 := Lib.hid (And.intro (H1.out.1.fr f2 (by simp)) (And.intro (H1.out.2.1.tr f2) (H1.out.2.2.fr f2)))
  clear f2 hrm
  cases hr : roomM l 200 with
  | false =>
    clear hr
    go_wp2
    go_ret
    exact ⟨rfl, H2.out.2.1⟩
  | true =>
    have hl200 : l.length ≤ 200 := by
      unfold roomM at hr
      simp at hr
      omega
    have hbl : ∀ e ∈ l, e.b.length ≤ 1100 := fun e he => by
      unfold roomM at hr
      rw [Bool.and_eq_true] at hr
      by_cases hbig : 1100 < e.b.length
      · rw [anyBig_mem he hbig] at hr; cases hr.2
      · omega
    have HBL := Lib.hid hbl
    clear hr hbl
    have hcf := fun w => law25_ConfigL c HC17.out w
    go_wp2_with (first | (refine wpList_load_row rfl 40 (.tmp 2) rfl R rfl 40 (intsV c) (0, 0) _ H2.out.1 Tryd.underlying40 rfl (by rw [HSS.out]; kernel_rfl) ?_) | fail)
    refine (hcf _).mono ?_
    rintro e w3 ⟨rfl, f3⟩
    have H3 := Lib.hid (And.intro (H2.out.1.fr f3 (by simp)) (And.intro (H2.out.2.1.tr f3) (H2.out.2.2.fr f3)))
    have hev := law28_Events w3 A cap l ss H3.out.2.2 (by omega)
    clear f3 hcf
    go_wp2_with fail
    refine hev.mono ?_
    rintro e w4 ⟨sv, rfl, hrow, f4⟩
    have H4 := Lib.hid (And.intro (H3.out.1.fr f4 (by simp)) (And.intro (H3.out.2.1.tr f4) (And.intro (H3.out.2.2.fr f4) hrow)))
    have hpr := scr_Print w4 w3.heap.size sv c l (HE.out.1.fr0 H4.out.2.1) HC17.out HE.out.2.1 (hrow.low (Nat.zero_le _)) f4.size (by omega) (fun e he => ⟨by have := HBL.out e he; omega, H4.out.2.2.1.ok e he⟩)
    clear hrow f4 hev
    go_wp2_with fail
    refine hpr.mono ?_
    rintro e w5 ⟨hp5, f5⟩
    have H5 := Lib.hid (And.intro (H4.out.1.fr f5 (by simp)) (And.intro (H4.out.2.1.tr f5) (H4.out.2.2.1.fr f5)))
    have hrp := r28_Print w5 A cap l ss c H5.out.2.2 HC17.out HE.out.2.1 (by omega) (fun e he => by have := HBL.out e he; omega)
    clear f5 hpr
    unfold PrPost at hp5 hrp
    cases hpm : printM c l with
    | error x =>
      have hx := printM_err hpm
      have hx2 : (x != 0) = true := by simp only [bne, hx]; rfl
      rw [hpm] at hp5 hrp
      dsimp only at hp5 hrp
      subst hp5
      clear hpm
      go_wp2_with (first | (refine wpList_load_row rfl 40 (.tmp 2) rfl R rfl 40 (intsV c) (0, 0) _ H5.out.1 Tryd.underlying40 rfl (by rw [HSS.out]; kernel_rfl) ?_) | fail)
      refine hrp.mono ?_
      rintro e w6 ⟨rfl, f6⟩
      have H6 := Lib.hid (H5.out.2.1.tr f6)
      clear f6 hrp
      go_wp2
      go_ret
      exact ⟨rfl, H6.out⟩
    | ok t =>
      rw [hpm] at hp5 hrp
      dsimp only at hp5 hrp
      subst hp5
      have hpp := parse_print HC17.out HE.out.2.1 H5.out.2.2.ok hpm
      have hinv := printM_inv hpm
      have HP := Lib.hid (And.intro hpm (And.intro hpp hinv))
      clear hpm hpp hinv
      go_wp2_with (first | (refine wpList_load_row rfl 40 (.tmp 2) rfl R rfl 40 (intsV c) (0, 0) _ H5.out.1 Tryd.underlying40 rfl (by rw [HSS.out]; kernel_rfl) ?_) | fail)
      refine hrp.mono ?_
      rintro e w6 ⟨rfl, f6⟩
      have H6 := Lib.hid (And.intro (H5.out.1.fr f6 (by simp)) (And.intro (H5.out.2.1.tr f6) (H5.out.2.2.fr f6)))
      clear f6 hrp
      have hts : (⟨t.toArray⟩ : ByteArray).size ≤ 2000000 := by
        have h1 := HP.out.2.2.2.2.1
        have h2 : (⟨t.toArray⟩ : ByteArray).size = t.length := by simp [ByteArray.size]
        omega
      have hps := scr_Parse w6 ⟨t.toArray⟩ (HE.out.1.fr0 H6.out.2.1) hts
      clear hts
      go_wp2_with fail
      refine hps.mono ?_
      rintro e w8 ⟨f8, hp8⟩
      rw [show (⟨t.toArray⟩ : ByteArray).bytes = t from rfl, HP.out.2.1] at hp8
      obtain ⟨hc17, sk, rfl, hrow⟩ := hp8
      have hb8 : Blk (w8.alloc (.cells (intsV zeros17) 30)) w8.heap.size (intsV zeros17) 30 := Blk.new _ _ _
      have H8 := Lib.hid (And.intro hb8 (And.intro (H6.out.2.1.tr f8) (And.intro (H6.out.1.fr f8 (by simp)) (And.intro (H6.out.2.2.fr f8) hrow))))
      clear hps hb8 f8 hc17 hrow
      go_wp2_with (first | (refine wpList_store_row rfl 30 (.tmp 9) (.tmp 47) rfl w8.heap.size (intsV c) rfl rfl 30 (intsV zeros17) H8.out.1 (by rw [HSS.out]; kernel_rfl) (by rw [HSS.out]; rfl) (intsV_one _) ?_) | fail)
      obtain ⟨w9, hw9⟩ : ∃ w9, (w8.alloc (.cells (intsV zeros17) 30)).setRow w8.heap.size (intsV c) = w9 := ⟨_, rfl⟩
      obtain ⟨D, hD⟩ : ∃ D, w8.heap.size = D := ⟨_, rfl⟩
      have H9 : Hid (Blk w9 D (intsV c) 30 ∧ Blk w9 R (intsV c) 40 ∧ Fr [] w w9 ∧ EvA w9 A l ss ∧ ERow 0 0 sk (l.map spareE) w9) := Lib.hid (by
        have f9 : Fr [] w8 w9 := by rw [← hw9]; exact ((Fr.refl [] w8).alloc _).setRow _ (.inr (Nat.le_refl _))
        exact ⟨by rw [← hw9, ← hD]; exact H8.out.1.setRow, H8.out.2.2.1.fr f9 (by simp), H8.out.2.1.tr f9, H8.out.2.2.2.1.fr f9, (ERow.fr f9 H8.out.2.2.2.2).low (Nat.zero_le _)⟩)
      rw [show (#[Value.int .i64 0, Value.int .i64 0, Value.int .i64 0, Value.int .i64 0, Value.int .i64 0, Value.int .i64 0, Value.int .i64 0, Value.int .i64 0, Value.int .i64 0, Value.int .i64 0, Value.int .i64 0, Value.int .i64 0, Value.int .i64 0, Value.int .i64 0, Value.int .i64 0, Value.int .i64 0, Value.int .i64 0] : Array Value) = intsV zeros17 from rfl, hw9, hD]
      clear hw9 hD
      go_loopw [13, 14] (fun o i wr => ∃ (q : Nat) (sn : Sl), o = .slice sn.A sn.n sn.c ∧ i = .int .i64 (q : Int) ∧ q ≤ l.length ∧ RRow w9.heap.size w9.heap.size sn ((l.take q).map spareE) wr ∧ Fr [] w9 wr) (fun _ i _ => l.length - (intOf i).toNat)
      case atStart => exact ⟨0, Sl.nil, rfl, rfl, by omega, RowG.nil, Fr.refl _ _⟩
      case round =>
        obtain ⟨q, sn, rfl, rfl, hq, hrow, hf⟩ := hrel
        have HK := Lib.hid (And.intro hrow hf)
        by_cases hlt : q < l.length
        · have d2 : (q : Int) < (l.length : Int) := by omega
          obtain ⟨ev, hev⟩ : ∃ ev, l[q]? = some ev := ⟨_, List.getElem?_eq_getElem hlt⟩
          obtain ⟨s, b, off, hs, hA, hcc, hi, -⟩ := (H9.out.2.2.2.1.fr hf).at_ hev
          have c0 := hcc 0 _ rfl
          have c1 := hcc 1 _ rfl
          have c2 := hcc 2 _ rfl
          have c3 := hcc 3 _ rfl
          have c4 := hcc 4 _ rfl
          have c5 := hcc 5 _ rfl
          have c6 := hcc 6 _ rfl
          have c7 := hcc 7 _ rfl
          rw [Nat.add_zero] at c0
          have HI9 : Hid (Ints .u8 w9 s.v (bytesI ev.b)) := Lib.hid (H9.out.2.2.2.1.bts q ev s hev hs)
          subst hA
          have wq : IntKind.i64.wrap ((q : Int) + 1) = (q : Int) + 1 := IntWalk.i64_in _ (by omega)
          have hfd : (findD ev.d).isSome = true := by
            have h1 := HP.out.2.2.1
            unfold anyNo at h1
            rw [List.any_eq_false] at h1
            have := h1 ev (List.mem_of_getElem? hev)
            cases hx : findD ev.d with
            | none => rw [hx] at this; simp at this
            | some _ => rfl
          have hsp := r28_Spare wr ev s hfd
          have HQ := Lib.hid hev
          clear hrow hf hcc hi hs hev hfd
          go_wp2_with fail
          refine hsp.mono ?_
          rintro e w10 ⟨⟨s', rfl, hs'⟩, f10⟩
          have HB10 : Hid (Bts w9.heap.size w10 s' (bytesI (spareE ev).b)) := Lib.hid (by
            rcases hs' with ⟨rfl, he⟩ | ⟨rfl, he⟩
            · rw [he]; exact ((Bts.arg HI9.out).fr HK.out.2).fr f10
            · rw [he]; exact Bts.nil _ _)
          have HF := Lib.hid (And.intro (HK.out.2.tr f10) (RRow.fr f10 HK.out.1))
          obtain ⟨xs, hown, hall, hlen⟩ := HF.out.2
          have hbw : w9.heap.size ≤ w10.heap.size := HF.out.1.size
          have hlq : ((l.take q).map spareE).length = q := by rw [List.length_map, List.length_take]; omega
          rw [hlq] at hown
          have HO := Lib.hid (And.intro hown (And.intro hall hlen))
          obtain ⟨z, hz⟩ : ∃ z, spareE ev = z := ⟨_, rfl⟩
          rw [hz] at HB10 ⊢
          clear f10 hsp c0 c1 c2 c3 c4 c5 c6 c7 hown hall hlen hs'
          go_wp2_with (at_builtin; refine wpList_append_src rfl _ _ 41 rfl (w9.heap.size) 55 i0 (.agg ((EV.zero 0).arr Sl.nil)) 8 80 hun hi0 hz0 hz1 hz2 rfl (by decide) _ _ _ rfl (HO.out.1.alloc _) _ 1 (z.arr s').toList rfl Src.one rfl (ev_list_one z s') (by unfold maxLen; omega) (by omega) (by first | (simp; done) | (simp; omega)) ?_)
          intro v' w11 hown11 hgrow
          obtain ⟨sm, rfl⟩ := own_sl' hown11
          have HN : Hid (RRow w9.heap.size w9.heap.size sm ((l.take (q + 1)).map spareE) w11 ∧ Fr [] w9 w11) := Lib.hid (by
            have fg : Fr [] w9 w11 := (HF.out.1.alloc (.cells (z.arr s') 55)).grown hgrow (fun k hk => .inr (HO.out.1.lt k hk).1)
            obtain ⟨hq2, he2⟩ := List.getElem?_eq_some_iff.1 HQ.out
            refine ⟨?_, fg⟩
            rw [List.take_succ_eq_append_getElem hq2, he2, List.map_append, List.map_cons, List.map_nil, hz]
            have fr8 : Fr sn.blk (w10.alloc (.cells (z.arr s') 55)) w11 := Fr.grownL hgrow
            have hoff : ∀ x ∈ sn.blk, w9.heap.size ≤ x ∧ ∀ cs fz, (w10.alloc (.cells (z.arr s') 55)).heap[x]? ≠ some (.cells cs 5 fz) := fun x hx => by
              obtain ⟨h1, cs, h2⟩ := own_blk (HO.out.1.alloc (.cells (z.arr s') 55)) x hx
              exact ⟨h1, fun cs' fz e => by rw [h2] at e; cases e⟩
            refine RowG.push (w := w10) (xs := xs) (cs := (z.arr s').toList) HO.out.2.1 HO.out.2.2 (by rw [hlq]; exact hown11) (fun cs d ⟨sd, e1, hb1⟩ => ⟨sd, e1, (hb1.fr ((Fr.refl [] _).alloc _)).frL fr8 hoff⟩) rfl ⟨s', rfl, (HB10.out.fr ((Fr.refl [] _).alloc _)).frL fr8 hoff⟩)
          clear hown11 hgrow
          go_wp2
          go_roundw
          case rel => exact ⟨q + 1, sm, rfl, by go_num, by omega, HN.out⟩
          case measure => simp [intOf]; omega
        · have hqe : q = l.length := by omega
          subst hqe
          have HR : Hid (RRow w9.heap.size w9.heap.size sn (l.map spareE) wr) := Lib.hid (by rw [List.take_length] at hrow; exact hrow)
          clear hrow hf
          have HBD : Hid (∀ wx, Fr [] wr wx → Blk wx D (intsV c) 30) := Lib.hid fun wx f => (H9.out.1.fr HK.out.2 (by simp)).fr f (by simp)
          have HBR : Hid (∀ wx, Fr [] wr wx → Blk wx R (intsV c) 40) := Lib.hid fun wx f => (H9.out.2.1.fr HK.out.2 (by simp)).fr f (by simp)
          have HSM : Hid (∀ wx, Fr [] wr wx → Calls Tryd.prog 11 #[.slice sk.A sk.n sk.c, .slice sn.A sn.n sn.c] wx fun r w' => r = .returned (.bool true) ∧ Fr [] wx w') := Lib.hid fun wx f => law28_same wx (l.map spareE) sk sn 0 0 w9.heap.size w9.heap.size (ERow.fr f (ERow.fr HK.out.2 H9.out.2.2.2.2)) (RRow.fr f HR.out) (by rw [List.length_map]; omega)
          have HEQ : Hid (∀ wx, (binOp .eql 30 (.agg (intsV c)) (.agg (intsV c))).run Tryd.prog wx = .ok (.bool true) wx) := Lib.hid fun wx => by have := cfg_eql c c HC17.out HE.out.2.1 HC17.out HE.out.2.1 wx; simpa using this
          go_upto_region 17 with fail
          refine wp_region_keepsU [] [Is (.int .i64 0), Is (.bool true), Is (.bool true), Is (.int .i64 0), Is (.bool true), Is (.bool true), Is (.bool true), Is (.agg (intsV c)), Is (.agg (intsV c)), Is (.agg (intsV c)), Is (.bool true), Is (.bool true), Is (.bool true), Is (.slice sk.A sk.n sk.c), Is (.slice sn.A sn.n sn.c), Is (.bool true), Is (.bool true), Is (.bool true)] 18 (by kernel_rfl) (by kernel_rfl) (by kernel_rfl) (by kernel_rfl) (by kernel_rfl) (by kernel_rfl) ?hV ?hS ?hD
          case hV =>
            repeat (first | exact trivial | exact Is.keeps _ | exact Any.keeps | exact IsSl.keeps _ _ _ | refine And.intro ?_ ?_)
          case hS =>
            (repeat' (first | exact trivial | refine And.intro ?_ ?_))
            rotate_right 8
            · as_aux_lemma =>
                intro ac wx hf hs hp K hK
                simp only [zA, Region.binds, Nat.reduceAdd] at hp
                (try simp only [getD_bool] at hp)
                have e2 := hs 2 (by kernel_rfl)
                have e9 := hs 9 (by kernel_rfl)
                have e10 := hs 10 (by kernel_rfl)
                have e11 := hs 11 (by kernel_rfl)
                have e12 := hs 12 (by kernel_rfl)
                have e13 := hs 13 (by kernel_rfl)
                simp only [Array.getD_eq_getD_getElem?, List.getElem?_toArray, List.getElem?_cons_succ, List.getElem?_cons_zero, Option.getD_some] at e2 e9 e10 e11 e12 e13
                clear hs
                obtain ⟨q7, q9, q6⟩ := hp
                refine Eq.mpr (if_pos (by simp [Region.wanted, yielded, q6])) ?_
                refine wp_bin .eql 30 (.tmp 72) (.tmp 74) _ (.bool true) rfl (by rw [show ac.eval (.tmp 72) = .agg (intsV c) by simpa [Act.eval] using q7, show ac.eval (.tmp 74) = .agg (intsV c) by simpa [Act.eval] using q9]; exact cfg_guard _ _ _ _ wx) (by rw [show ac.eval (.tmp 72) = .agg (intsV c) by simpa [Act.eval] using q7, show ac.eval (.tmp 74) = .agg (intsV c) by simpa [Act.eval] using q9]; exact HEQ.out wx) ?_
                refine hK.out _ _ (Fr.refl _ _) ?_
                simp only [nth]
                (unfold Is; rfl)
            rotate_right 2
            · as_aux_lemma =>
                intro ac wx hf hs hp K hK
                simp only [zA, Region.binds, Nat.reduceAdd] at hp
                (try simp only [getD_bool] at hp)
                have e2 := hs 2 (by kernel_rfl)
                have e9 := hs 9 (by kernel_rfl)
                have e10 := hs 10 (by kernel_rfl)
                have e11 := hs 11 (by kernel_rfl)
                have e12 := hs 12 (by kernel_rfl)
                have e13 := hs 13 (by kernel_rfl)
                simp only [Array.getD_eq_getD_getElem?, List.getElem?_toArray, List.getElem?_cons_succ, List.getElem?_cons_zero, Option.getD_some] at e2 e9 e10 e11 e12 e13
                clear hs
                refine Eq.mpr (if_pos (by simp [Region.wanted, yielded, hp])) ?_
                refine wp_load_row 40 (.tmp 2) rfl R (by simpa [Act.eval] using e2) 40 (intsV c) (0, 0) _ (HBR.out wx hf) Tryd.underlying40 rfl (by rw [HSS.out]; kernel_rfl) ?_
                refine hK.out _ _ (Fr.refl _ _) ?_
                simp only [nth]
                (unfold Is; rfl)
            rotate_right 1
            · as_aux_lemma =>
                intro ac wx hf hs hp K hK
                simp only [zA, Region.binds, Nat.reduceAdd] at hp
                (try simp only [getD_bool] at hp)
                have e2 := hs 2 (by kernel_rfl)
                have e9 := hs 9 (by kernel_rfl)
                have e10 := hs 10 (by kernel_rfl)
                have e11 := hs 11 (by kernel_rfl)
                have e12 := hs 12 (by kernel_rfl)
                have e13 := hs 13 (by kernel_rfl)
                simp only [Array.getD_eq_getD_getElem?, List.getElem?_toArray, List.getElem?_cons_succ, List.getElem?_cons_zero, Option.getD_some] at e2 e9 e10 e11 e12 e13
                clear hs
                refine Eq.mpr (if_pos (by simp [Region.wanted, yielded, hp])) ?_
                refine wp_load_row 30 (.tmp 9) rfl D (by simpa [Act.eval] using e9) 30 (intsV c) (0, 0) _ (HBD.out wx hf) Tryd.underlying30 rfl (by rw [HSS.out]; kernel_rfl) ?_
                refine hK.out _ _ (Fr.refl _ _) ?_
                simp only [nth]
                (unfold Is; rfl)
            all_goals (as_aux_lemma =>
              intro ac wx hf hs hp K hK
              simp only [zA, Region.binds, Nat.reduceAdd] at hp
              (try simp only [getD_bool] at hp)
              have e2 := hs 2 (by kernel_rfl)
              have e9 := hs 9 (by kernel_rfl)
              have e10 := hs 10 (by kernel_rfl)
              have e11 := hs 11 (by kernel_rfl)
              have e12 := hs 12 (by kernel_rfl)
              have e13 := hs 13 (by kernel_rfl)
              simp only [Array.getD_eq_getD_getElem?, List.getElem?_toArray, List.getElem?_cons_succ, List.getElem?_cons_zero, Option.getD_some] at e2 e9 e10 e11 e12 e13
              clear hs
              have hsm := HSM.out wx hf
              have heq := HEQ.out wx
              clear hf
              (try simp only [hp])
              go_simp
              try dsimp only
              first | (refine hK.out _ _ ?_ ?_; (first | exact Fr.refl _ _ | exact (Fr.refl _ _).alloc _); (simp only [nth]; (first | (unfold Is; rfl) | (unfold Any; exact trivial) | exact IsSl.new _ _ _ _))) | (go_at_call 10; refine (law25_ConfigL c HC17.out _).mono ?_; rintro e w' ⟨rfl, f⟩; refine hK.out _ _ f ?_; simp only [nth]; (unfold Is; rfl)) | (go_at_call 11; refine (hsm).mono ?_; rintro e w' ⟨rfl, f⟩; refine hK.out _ _ f ?_; simp only [nth]; (unfold Is; rfl)))
          case hD =>
            as_aux_lemma =>
            intro xv wx hf hp
            simp only [List.take_succ_cons, List.take_zero, List.drop_succ_cons, List.drop_zero, fill, List.setIfInBounds_toArray, List.set_cons_zero, List.set_cons_succ, Nat.reduceAdd, Act.put]
            simp only [List.range_eq_range', List.range'_succ, List.range'_zero, Nat.zero_add, Nat.add_zero, Nat.reduceAdd, holds, nth, Is, Any, true_and, and_true] at hp
            obtain ⟨-, -, -, -, -, -, -, -, -, -, -, -, -, -, -, -, -, p17⟩ := hp
            simp only [p17]
            have HF9 := Lib.hid (H9.out.2.2.1.tr (HK.out.2.tr hf))
            clear p17 hf
            go_wp2
            go_ret
            exact ⟨rfl, HF9.out⟩
end Go.Proofs.YtodlbajpcbdbaaaDoor
namespace Go.Proofs.YtodlbajpcbdbaaaDoor
open Go.RowKit Go.ChangeShapes Go.WideShapes Go.Deep
set_option linter.unusedVariables false
set_option linter.unusedSimpArgs false
set_option maxRecDepth 100000

theorem acap_open {H : Type} {enc : TypeId × Value → H} {P : Program} {w : World} {base : Nat} {spare : Nat → Bool} {held : Bool} {t e : TypeId} (ht : P.underlying t = some (.slice e)) {A : Option Addr} {len cap : Nat} {d : DataW H} {p : List MemPlace}
    (h : DataW.Trod enc P w base spare held t (.slice A len cap) d p) : ACap A len cap := by
  obtain ⟨fuel, hf⟩ := h
  rcases open_slice ht hf with ⟨hcs, _⟩ | ⟨a, l, c, m, n, D, Pl, hcs, hb, hl, hm, hmm, _, hi⟩
  · simp [Value.cells] at hcs
    exact .inl hcs
  · simp [Value.cells] at hcs
    obtain ⟨rfl, rfl, rfl⟩ := hcs
    exact .inr ⟨by simp, hl, hm⟩
/-- A type whose cells are so many whole numbers. -/
def AllInt {H : Type} (enc : TypeId × Value → H) (P : Program) (w : World) (base : Nat) (spare : Nat → Bool) (held : Bool) (t : TypeId) (n : Nat) : Prop :=
  P.cellsOf t = n ∧ ∀ (fuel : Nat) (cs : List Value) (x : DataW H × List MemPlace), DataW.trod enc P w base spare held fuel t cs = some x → ∃ l : List Int, l.length = n ∧ cs = l.map (Value.int .i64) ∧ ∀ y ∈ l, In64 y
section
variable {H : Type} {enc : TypeId × Value → H} {P : Program} {w : World} {base : Nat} {spare : Nat → Bool} {held : Bool}
theorem allInt_int {t : TypeId} (ht : P.underlying t = some (.int .i64)) (hc : P.cellsOf t = 1) : AllInt enc P w base spare held t 1 :=
  ⟨hc, fun fuel cs x h => by
    obtain ⟨n, rfl, _, hw⟩ := DataW.trod_int ht h
    refine ⟨[n], rfl, rfl, fun y hy => ?_⟩
    simp at hy
    subst hy
    have h1 : IntKind.i64.min = -9223372036854775808 := rfl
    have h2 : IntKind.i64.max = 9223372036854775807 := rfl
    simp [Lit.wf, h1, h2] at hw
    exact ⟨by omega, by omega⟩⟩
theorem allInt_chain {fs : Array Field} {n : Nat} {cs : List Value} {xs : List (DataW H × List MemPlace)} (hx : xs.length = fs.size)
    (hf : ∀ (i : Nat) (f : Field), fs[i]? = some f → DataW.trod enc P w base spare held n f.type ((cs.drop f.offset).take (P.cellsOf f.type)) = xs[i]?) :
    ∀ (ns : List Nat) (j o : Nat), (∀ (i m : Nat), ns[i]? = some m → ∃ f, fs[j + i]? = some f ∧ f.offset = o + (ns.take i).sum ∧ AllInt enc P w base spare held f.type m) → ∃ l : List Int, l.length = ns.sum ∧ (cs.drop o).take ns.sum = l.map (Value.int .i64) ∧ ∀ y ∈ l, In64 y
  | [], j, o, _ => ⟨[], rfl, by simp, by simp⟩
  | m :: ns, j, o, h => by
    obtain ⟨f, h1, h2, h3, h4⟩ := h 0 m rfl
    have h5 := hf _ f h1
    rw [h2, h3] at h5
    have hj : j + 0 < xs.length := by rw [hx]; exact (Array.getElem?_eq_some_iff.1 h1).1
    rw [List.getElem?_eq_getElem hj] at h5
    obtain ⟨l0, a1, a2, a3⟩ := h4 _ _ _ h5
    obtain ⟨l1, b1, b2, b3⟩ := allInt_chain hx hf ns (j + 1) (o + m) (fun i m' hi => by
      obtain ⟨f', c1, c2, c3⟩ := h (i + 1) m' (by simpa using hi)
      exact ⟨f', by rw [← c1]; congr 1; omega, by rw [c2]; simp; omega, c3⟩)
    refine ⟨l0 ++ l1, by simp [a1, b1], ?_, fun y hy => ?_⟩
    · rw [List.sum_cons, List.take_add, List.map_append, List.drop_drop, ← b2, ← a2]
      simp
    · rcases List.mem_append.1 hy with hy | hy
      · exact a3 y hy
      · exact b3 y hy
theorem allInt_struct {t : TypeId} {fs : Array Field} (ht : P.underlying t = some (.struct fs)) (ns : List Nat) (hc : P.cellsOf t = ns.sum)
    (h : ∀ (i m : Nat), ns[i]? = some m → ∃ f, fs[i]? = some f ∧ f.offset = (ns.take i).sum ∧ AllInt enc P w base spare held f.type m) : AllInt enc P w base spare held t ns.sum :=
  ⟨hc, fun fuel cs x hx => by
    obtain ⟨xs, n, _, _, hcl, hxl, hfld⟩ := DataW.trod_struct ht hx
    obtain ⟨l, h1, h2, h3⟩ := allInt_chain hxl hfld ns 0 0 (fun i m hi => by
      obtain ⟨f, c1, c2, c3⟩ := h i m hi
      exact ⟨f, by rw [Nat.zero_add]; exact c1, by rw [c2, Nat.zero_add], c3⟩)
    refine ⟨l, h1, ?_, h3⟩
    rw [← h2, List.drop_zero, List.take_of_length_le (by rw [hcl, hc]; exact Nat.le_refl _)]⟩
end
theorem cfg_open {H : Type} {enc : TypeId × Value → H} {w : World} {base : Nat} {spare : Nat → Bool} {held : Bool} {cs : Array Value} {d : DataW H} {p : List MemPlace}
    (h : DataW.Trod enc Tryd.prog w base spare held 40 (.agg cs) d p) : ∃ c : List Int, c.length = 17 ∧ cs = intsV c ∧ ∀ x ∈ c, In64 x := by
  have i0 : AllInt enc Tryd.prog w base spare held 3 1 := allInt_int Tryd.underlying3 (by kernel_rfl)
  have iT : AllInt enc Tryd.prog w base spare held 35 6 := allInt_struct Tryd.underlying35 [1, 1, 1, 1, 1, 1] (by kernel_rfl) (fun i m hi => by
    match i, hi with
    | 0, hi => cases hi; exact ⟨_, rfl, rfl, i0⟩
    | 1, hi => cases hi; exact ⟨_, rfl, rfl, i0⟩
    | 2, hi => cases hi; exact ⟨_, rfl, rfl, i0⟩
    | 3, hi => cases hi; exact ⟨_, rfl, rfl, i0⟩
    | 4, hi => cases hi; exact ⟨_, rfl, rfl, i0⟩
    | 5, hi => cases hi; exact ⟨_, rfl, rfl, i0⟩)
  have iO : AllInt enc Tryd.prog w base spare held 36 3 := allInt_struct Tryd.underlying36 [1, 1, 1] (by kernel_rfl) (fun i m hi => by
    match i, hi with
    | 0, hi => cases hi; exact ⟨_, rfl, rfl, i0⟩
    | 1, hi => cases hi; exact ⟨_, rfl, rfl, i0⟩
    | 2, hi => cases hi; exact ⟨_, rfl, rfl, i0⟩)
  have iS : AllInt enc Tryd.prog w base spare held 38 13 := allInt_struct Tryd.underlying38 [6, 3, 1, 1, 1, 1] (by kernel_rfl) (fun i m hi => by
    match i, hi with
    | 0, hi => cases hi; exact ⟨_, rfl, rfl, iT⟩
    | 1, hi => cases hi; exact ⟨_, rfl, rfl, iO⟩
    | 2, hi => cases hi; exact ⟨_, rfl, rfl, i0⟩
    | 3, hi => cases hi; exact ⟨_, rfl, rfl, i0⟩
    | 4, hi => cases hi; exact ⟨_, rfl, rfl, i0⟩
    | 5, hi => cases hi; exact ⟨_, rfl, rfl, i0⟩)
  have iN : AllInt enc Tryd.prog w base spare held 40 17 := allInt_struct Tryd.underlying40 [1, 1, 1, 1, 13] (by kernel_rfl) (fun i m hi => by
    match i, hi with
    | 0, hi => cases hi; exact ⟨_, rfl, rfl, i0⟩
    | 1, hi => cases hi; exact ⟨_, rfl, rfl, i0⟩
    | 2, hi => cases hi; exact ⟨_, rfl, rfl, i0⟩
    | 3, hi => cases hi; exact ⟨_, rfl, rfl, i0⟩
    | 4, hi => cases hi; exact ⟨_, rfl, rfl, iS⟩)
  obtain ⟨fuel, hf⟩ := h
  obtain ⟨l, h1, h2, h3⟩ := iN.2 _ _ _ hf
  refine ⟨l, h1, ?_, h3⟩
  have h4 : cs.toList = l.map (Value.int .i64) := by simpa [Value.cells] using h2
  apply Array.toList_inj.1
  rw [h4]
  simp [intsV]
end Go.Proofs.YtodlbajpcbdbaaaDoor
