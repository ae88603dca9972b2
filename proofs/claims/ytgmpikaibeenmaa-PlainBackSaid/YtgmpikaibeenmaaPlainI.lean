
/- Package plain: what a user is told, what is answered. -/
import Derived.Test.YtgmpikaibeenmaaPlainH
namespace Go.Proofs.Ytgmpikaibeenmaa
open Go.RowKit
set_option linter.unusedVariables false
set_option linter.unusedSimpArgs false
set_option maxRecDepth 100000

def All2 {α β : Type} (r : β → α → Prop) : List β → List α → Prop
  | [], [] => True
  | x :: xs, y :: ys => r x y ∧ All2 r xs ys
  | _, _ => False
theorem All2.imp {α β : Type} {r q : β → α → Prop} (h : ∀ x y, r x y → q x y) : ∀ {xs : List β} {ys : List α}, All2 r xs ys → All2 q xs ys
  | [], [], _ => trivial
  | _ :: _, _ :: _, ⟨h1, h2⟩ => ⟨h _ _ h1, h2.imp h⟩
theorem All2.snoc {α β : Type} {r : β → α → Prop} {x : β} {y : α} (h0 : r x y) : ∀ {xs : List β} {ys : List α}, All2 r xs ys → All2 r (xs ++ [x]) (ys ++ [y])
  | [], [], _ => ⟨h0, trivial⟩
  | _ :: _, _ :: _, ⟨h1, h2⟩ => ⟨h1, h2.snoc h0⟩
theorem All2.len {α β : Type} {r : β → α → Prop} : ∀ {xs : List β} {ys : List α}, All2 r xs ys → xs.length = ys.length
  | [], [], _ => rfl
  | _ :: _, _ :: _, ⟨_, h2⟩ => by simp [h2.len]
theorem All2.get {α β : Type} {r : β → α → Prop} : ∀ {xs : List β} {ys : List α}, All2 r xs ys → ∀ i (hx : i < xs.length) (hy : i < ys.length), r xs[i] ys[i]
  | _ :: _, _ :: _, ⟨h1, _⟩, 0, _, _ => h1
  | _ :: _, _ :: _, ⟨_, h2⟩, i + 1, hx, hy => by simpa using h2.get i (by simpa using hx) (by simpa using hy)
/-- A row of its own, element by element. -/
def RowG {α : Type} (T : TypeId) (z : Nat) (rep : World → List Value → α → Prop) (B : Nat) (w : World) (s : Sl) (l : List α) : Prop :=
  ∃ xs : List (List Value), w.ownsRow B T z s.v l.length xs.flatten ∧ All2 (rep w) xs l ∧ ∀ x ∈ xs, x.length = z
theorem RowG.nil {α : Type} {T : TypeId} {z : Nat} {rep : World → List Value → α → Prop} {B : Nat} {w : World} : RowG T z rep B w Sl.nil [] := ⟨[], World.ownsRow_nil _ _ _ _, trivial, by simp⟩
theorem RowG.fr {α : Type} {T : TypeId} {z : Nat} {rep : World → List Value → α → Prop} {B : Nat} {w w' : World} {s : Sl} {l : List α} (hr : ∀ cs d, rep w cs d → rep w' cs d) (h : RowG T z rep B w s l) (f : Fr [] w w') : RowG T z rep B w' s l := by
  obtain ⟨xs, h1, h2, h3⟩ := h
  exact ⟨xs, own_fr h1 f, h2.imp fun _ _ h => hr _ _ h, h3⟩
theorem RowG.blk {α : Type} {T : TypeId} {z : Nat} {rep : World → List Value → α → Prop} {B : Nat} {w : World} {s : Sl} {l : List α} (h : RowG T z rep B w s l) : ∀ b ∈ s.blk, B ≤ b ∧ ∃ cs, w.heap[b]? = some (.cells cs T (0, 0)) := by
  obtain ⟨xs, h1, _⟩ := h; exact own_blk h1
theorem RowG.n {α : Type} {T : TypeId} {z : Nat} {rep : World → List Value → α → Prop} {B : Nat} {w : World} {s : Sl} {l : List α} (h : RowG T z rep B w s l) : s.n = l.length := by
  obtain ⟨xs, h1, _⟩ := h; exact own_n h1
/-- A station's address. -/
structure Ad where
  a : Int
  b : Int
  c : Int
  d : Int
  e : Int
  f : Int
deriving DecidableEq
abbrev Ad.arr (x : Ad) : Array Value := #[.int .u8 x.a, .int .u8 x.b, .int .u8 x.c, .int .u8 x.d, .int .u8 x.e, .int .u8 x.f]
abbrev Ad.val (x : Ad) : Value := .agg x.arr
/-- What a user is told. -/
structure ID where
  kd : Int
  sap : Int
  far : Int
  peer : Ad
  b : List Int
deriving DecidableEq
abbrev ID.arr (i : ID) (s : Sl) : Array Value := #[.int .i64 i.kd, .int .i64 i.sap, .int .i64 i.far, .int .u8 i.peer.a, .int .u8 i.peer.b, .int .u8 i.peer.c, .int .u8 i.peer.d, .int .u8 i.peer.e, .int .u8 i.peer.f, .slice s.A s.n s.c, .int .i64 0]
def repI (N : Nat) (w : World) (cs : List Value) (i : ID) : Prop := ∃ s : Sl, cs = (i.arr s).toList ∧ Bts N w s i.b
def repP (N : Nat) (w : World) (cs : List Value) (d : PD) : Prop := ∃ s : Sl, cs = (d.arr s).toList ∧ Bts N w s d.info
def IRow (N B : Nat) (s : Sl) (l : List ID) (w : World) : Prop := RowG 56 11 (repI N) B w s l
def PRow (N B : Nat) (s : Sl) (l : List PD) (w : World) : Prop := RowG 29 9 (repP N) B w s l
theorem IRow.fr {N B : Nat} {s : Sl} {l : List ID} {w w' : World} (f : Fr [] w w') (h : IRow N B s l w) : IRow N B s l w' := RowG.fr (fun _ _ ⟨s, e, hb⟩ => ⟨s, e, hb.fr f⟩) h f
theorem PRow.fr {N B : Nat} {s : Sl} {l : List PD} {w w' : World} (f : Fr [] w w') (h : PRow N B s l w) : PRow N B s l w' := RowG.fr (fun _ _ ⟨s, e, hb⟩ => ⟨s, e, hb.fr f⟩) h f
theorem IRow.off {N B : Nat} {s : Sl} {l : List ID} {w : World} (h : IRow N B s l w) (hN : N ≤ B) : ∀ x ∈ s.blk, N ≤ x ∧ ∀ cs fz, w.heap[x]? ≠ some (.cells cs 5 fz) := by
  intro x hx
  obtain ⟨h1, cs, h2⟩ := RowG.blk h x hx
  exact ⟨by omega, fun cs' fz e => by rw [h2] at e; cases e⟩
theorem PRow.off {N B : Nat} {s : Sl} {l : List PD} {w : World} (h : PRow N B s l w) (hN : N ≤ B) : ∀ x ∈ s.blk, N ≤ x ∧ ∀ cs fz, w.heap[x]? ≠ some (.cells cs 5 fz) := by
  intro x hx
  obtain ⟨h1, cs, h2⟩ := RowG.blk h x hx
  exact ⟨by omega, fun cs' fz e => by rw [h2] at e; cases e⟩
/-- Behind a change of a row that holds no bytes, and of what is no bytes else. -/
theorem RowG.push {α : Type} {T : TypeId} {z : Nat} {rep : World → List Value → α → Prop} {B : Nat} {w w' : World} {s' : Sl} {l : List α} {xs : List (List Value)} {cs : List Value} {d : α}
    (h2 : All2 (rep w) xs l) (h3 : ∀ x ∈ xs, x.length = z) (hown : w'.ownsRow B T z s'.v (l.length + 1) (xs.flatten ++ cs)) (hr : ∀ cs d, rep w cs d → rep w' cs d) (hc : cs.length = z) (hd : rep w' cs d) : RowG T z rep B w' s' (l ++ [d]) := by
  refine ⟨xs ++ [cs], by simpa using hown, ?_, fun x hx => ?_⟩
  · exact (h2.imp fun _ _ h => hr _ _ h).snoc hd
  · rcases List.mem_append.1 hx with hx | hx
    · exact h3 x hx
    · simp at hx; subst hx; exact hc
theorem RowG.frL {α : Type} {T : TypeId} {z : Nat} {rep : World → List Value → α → Prop} {B : Nat} {w w' : World} {s : Sl} {l : List α} {L : List Nat} (h : RowG T z rep B w s l) (f : Fr L w w') (hn : ∀ b ∈ s.blk, b ∉ L) (hr : ∀ cs d, rep w cs d → rep w' cs d) : RowG T z rep B w' s l := by
  obtain ⟨xs, h1, h2, h3⟩ := h
  refine ⟨xs, ⟨h1.1, h1.2.imp id fun ⟨g, cap, cur, e, hg, hb, r⟩ => ⟨g, cap, cur, e, hg, f.keeps hb (hn g (blk_mem e)), r⟩⟩, h2.imp fun _ _ h => hr _ _ h, h3⟩
/-- Behind a change of blocks below B that hold no bytes. -/
theorem IRow.frL {N B : Nat} {s : Sl} {l : List ID} {w w' : World} {L : List Nat} (h : IRow N B s l w) (f : Fr L w w') (hL : ∀ x ∈ L, N ≤ x ∧ ∀ cs fz, w.heap[x]? ≠ some (.cells cs 5 fz)) (hn : ∀ b ∈ s.blk, b ∉ L) : IRow N B s l w' :=
  RowG.frL h f hn fun _ _ ⟨s, e, hb⟩ => ⟨s, e, hb.frL f hL⟩
theorem PRow.frL {N B : Nat} {s : Sl} {l : List PD} {w w' : World} {L : List Nat} (h : PRow N B s l w) (f : Fr L w w') (hL : ∀ x ∈ L, N ≤ x ∧ ∀ cs fz, w.heap[x]? ≠ some (.cells cs 5 fz)) (hn : ∀ b ∈ s.blk, b ∉ L) : PRow N B s l w' :=
  RowG.frL h f hn fun _ _ ⟨s, e, hb⟩ => ⟨s, e, hb.frL f hL⟩
theorem Blk.noB {w : World} {b : Nat} {cs : Array Value} {t : TypeId} (h : Blk w b cs t) (ht : t ≠ 5) : ∀ cs fz, w.heap[b]? ≠ some (.cells cs 5 fz) := fun cs' fz e => by
  rw [Blk] at h
  rw [h] at e
  cases e
  exact ht rfl
def CloneF (N : Nat) (l : List Int) : World → Value → Prop := fun w v => ∃ s : Sl, v = .slice s.A s.n s.c ∧ Bts N w s l
theorem CloneF.keeps {N : Nat} {l : List Int} : Keeps [] (CloneF N l) := fun _ _ _ f ⟨s, e, h⟩ => ⟨s, e, h.fr f⟩
def AggF (N : Nat) (l : List Int) (mk : Sl → Array Value) : World → Value → Prop := fun w v => ∃ s : Sl, v = .agg (mk s) ∧ Bts N w s l
theorem AggF.keeps {N : Nat} {l : List Int} {mk : Sl → Array Value} : Keeps [] (AggF N l mk) := fun _ _ _ f ⟨s, e, h⟩ => ⟨s, e, h.fr f⟩
def SrcF (N : Nat) (l : List Int) (mk : Sl → Array Value) : World → Value → Prop := fun w v => ∃ s : Sl, Src 1 (mk s).toList w v ∧ Bts N w s l
theorem SrcF.keeps {N : Nat} {l : List Int} {mk : Sl → Array Value} : Keeps [] (SrcF N l mk) := fun _ _ _ f ⟨s, e, h⟩ => ⟨s, Src.keeps _ _ _ f e, h.fr f⟩
def RowF {α : Type} (R : Sl → List α → World → Prop) (l : List α) : World → Value → Prop := fun w v => ∃ s : Sl, v = .slice s.A s.n s.c ∧ R s l w
theorem RowF.keeps {α : Type} {R : Sl → List α → World → Prop} {l : List α} (h : ∀ s w w', Fr [] w w' → R s l w → R s l w') : Keeps [] (RowF R l) := fun _ _ _ f ⟨s, e, hr⟩ => ⟨s, e, h s _ _ f hr⟩
theorem Fr.grownL {w w' : World} {s : Sl} (g : w.grownBy w' s.v.ownBlock) : Fr s.blk w w' := by
  refine (Fr.refl _ _).grown g fun k hk => .inl ?_
  cases s with
  | mk A n c =>
    cases A with
    | none => simp [Value.ownBlock] at hk
    | some a => simp [Value.ownBlock] at hk; simp [Sl.blk, hk]
theorem stC_sl {N : Nat} {L : List Nat} {w w' : World} {s : Sl} (g : w.grownBy w' s.v.ownBlock) (h : ∀ b ∈ s.blk, b ∈ L) : stC N L true w w' := ⟨s.blk, Fr.grownL g, fun x hx => .inl (h x hx)⟩

set_option maxHeartbeats 2000000 in
theorem plain_tell (kd n : Int) (d : PD) (sp : Sl) (ad : Ad) (N B T P A : Nat) (st : Sl) (l : List ID) (w : World) (hP : Blk w P (d.arr sp) 29) (hb : Bts N w sp d.info) (hA : Blk w A ad.arr 37) (hT : Blk w T #[.slice st.A st.n st.c] 32) (hR : IRow N B st l w)
    (hNB : N ≤ B) (hNT : N ≤ T) (hTB : T < B) (hPB : P < B) (hAB : A < B) (hBw : B ≤ w.heap.size) (hl : l.length ≤ 1000) (hi : d.info.length ≤ 100000) :
    Calls Try.prog 29 #[.int .i64 kd, .int .i64 n, .pointer (some ⟨T, 0, none⟩), .pointer (some ⟨P, 0, none⟩), .pointer (some ⟨A, 0, none⟩)] w fun e w' =>
      e = .returned (.tuple #[]) ∧ ∃ st' : Sl, Blk w' T #[.slice st'.A st'.n st'.c] 32 ∧ IRow N B st' (l ++ [⟨kd, n, d.fr, ad, d.info⟩]) w' ∧ Fr (T :: st.blk) w w' := by
  obtain ⟨ji, j0, j1, j2, j3⟩ := info_parts (show (Try.prog.info? 56).map (fun i => (i.zero, i.size, i.bytes)) = some (some (.agg #[.int .i64 0, .int .i64 0, .int .i64 0, .int .u8 0, .int .u8 0, .int .u8 0, .int .u8 0, .int .u8 0, .int .u8 0, .slice none 0 0, .int .i64 0]), 11, 64) by kernel_rfl)
  have ju : Try.prog.underlying 32 = some (.slice 56) := Try.underlying32
  have hLb := IRow.off hR hNB
  have hlow : ∀ x ∈ st.blk, B ≤ x := fun x hx => (RowG.blk hR x hx).1
  have nT : T ∉ st.blk := fun h => by have := hlow _ h; omega
  have nP : P ∉ st.blk := fun h => by have := hlow _ h; omega
  have nA : A ∉ st.blk := fun h => by have := hlow _ h; omega
  have kT : ∀ wx, Fr st.blk w wx → wx.cell? ⟨T, 0, none⟩ = some (.slice st.A st.n st.c) := fun wx hf => hf.cell (hT.cell 0 rfl) nT
  have kF : ∀ wx, Fr st.blk w wx → wx.cell? ⟨P, 1, none⟩ = some (.int .i64 d.fr) := fun wx hf => hf.cell (hP.cell 1 rfl) nP
  have kI : ∀ wx, Fr st.blk w wx → wx.cell? ⟨P, 8, none⟩ = some (.slice sp.A sp.n sp.c) := fun wx hf => hf.cell (hP.cell 8 rfl) nP
  have kA0 : ∀ wx, Fr st.blk w wx → wx.cell? ⟨A, 0, none⟩ = some (.int .u8 ad.a) := fun wx hf => hf.cell (hA.cell 0 rfl) nA
  have kA1 : ∀ wx, Fr st.blk w wx → wx.cell? ⟨A, 1, none⟩ = some (.int .u8 ad.b) := fun wx hf => hf.cell (hA.cell 1 rfl) nA
  have kA2 : ∀ wx, Fr st.blk w wx → wx.cell? ⟨A, 2, none⟩ = some (.int .u8 ad.c) := fun wx hf => hf.cell (hA.cell 2 rfl) nA
  have kA3 : ∀ wx, Fr st.blk w wx → wx.cell? ⟨A, 3, none⟩ = some (.int .u8 ad.d) := fun wx hf => hf.cell (hA.cell 3 rfl) nA
  have kA4 : ∀ wx, Fr st.blk w wx → wx.cell? ⟨A, 4, none⟩ = some (.int .u8 ad.e) := fun wx hf => hf.cell (hA.cell 4 rfl) nA
  have kA5 : ∀ wx, Fr st.blk w wx → wx.cell? ⟨A, 5, none⟩ = some (.int .u8 ad.f) := fun wx hf => hf.cell (hA.cell 5 rfl) nA
  have HT := Lib.hid hT
  have HR := Lib.hid hR
  clear hP hA hT hR
  go_enter Try.func29, Try.ntmps29
  go_wp2
  refine wp_region_keepsC st.blk [false, false, false, false, false, false, false, false, false, false, false, true] [some 11, none, none, none, none, none, none, none, some 11, some 10, some 11, some 12] (IRow N B st l) [(IsW (.slice st.A st.n st.c) (IRow N B st l)), Is (.int .i64 kd), Is (.int .i64 n), Is (.pointer (some ⟨P, 1, none⟩)), Is (.int .i64 d.fr), Is (.agg ad.arr), Is (.pointer (some ⟨P, 8, none⟩)), Is (.slice sp.A sp.n sp.c), (CloneF N d.info), (AggF N d.info (ID.arr ⟨kd, n, d.fr, ad, d.info⟩)), (SrcF N d.info (ID.arr ⟨kd, n, d.fr, ad, d.info⟩)), (RowF (IRow N B) (l ++ [⟨kd, n, d.fr, ad, d.info⟩]))] 12 (by kernel_rfl) (by kernel_rfl) (by kernel_rfl) (by kernel_rfl) (by kernel_rfl) (by kernel_rfl) (by kernel_rfl) (by kernel_rfl) ?hV (fun _ _ f h => IRow.fr f h) (HR.out) ?hS ?hD
  case hV =>
    repeat (first | exact trivial | exact Is.keepsN _ | exact Any.keepsN | exact IsW.keeps (fun _ _ f h => IRow.fr f h) | exact CloneF.keeps | exact AggF.keeps | exact SrcF.keeps | exact RowF.keeps (fun _ _ _ f h => IRow.fr f h) | refine And.intro ?_ ?_)
  case hS =>
    (repeat' (first | exact trivial | refine And.intro ?_ ?_))
    · intro ac wx hf hbs hs hp K hK
      simp only [waits, holdsA, nth, Is, Any, List.filter_cons, List.filter_nil, List.map_cons, List.map_nil, Region.binds, if_true, true_and, and_true, Nat.reduceAdd, List.getElem?_cons_zero, List.getElem?_cons_succ, Option.bind_some, Array.getD_eq_getD_getElem?] at hp
      have hs2 := hs 2 (by kernel_rfl)
      simp only [Array.getD_eq_getD_getElem?, List.getElem?_toArray, List.getElem?_cons_succ, List.getElem?_cons_zero, Option.getD_some] at hs2
      clear hs
      clear hp
      have hb0 := hbs (by kernel_rfl)
      have cx := kT wx hf
      clear hf hbs
      go_simp
      refine hK.out _ _ ?_ ?_
      · change Fr [] _ _
        exact Fr.refl _ _
      · simp only [nth]
        exact ⟨rfl, hb0⟩
    · intro ac wx hf hbs hs hp K hK
      simp only [waits, holdsA, nth, Is, Any, List.filter_cons, List.filter_nil, List.map_cons, List.map_nil, Region.binds, if_true, true_and, and_true, Nat.reduceAdd, List.getElem?_cons_zero, List.getElem?_cons_succ, Option.bind_some, Array.getD_eq_getD_getElem?] at hp
      have hs0 := hs 0 (by kernel_rfl)
      simp only [Array.getD_eq_getD_getElem?, List.getElem?_toArray, List.getElem?_cons_succ, List.getElem?_cons_zero, Option.getD_some] at hs0
      clear hs
      clear hbs
      clear hp
      clear hf
      go_simp
      try dsimp only
      refine hK.out _ _ ?_ ?_
      · change Fr [] _ _
        ((repeat (first | (with_reducible exact Fr.refl _ _) | (with_reducible assumption) | (with_reducible refine Fr.drew ?_) | (with_reducible refine Fr.drewN ?_ _) | (with_reducible refine Fr.alloc ?_ _) | (with_reducible refine Fr.setL ?_ _ _ _ ?_) | (focus (refine Or.inl ?_; simp; done)) | (focus (refine Or.inr ?_; simp; done)) | (focus (refine Or.inr ?_; simp; omega)) | (focus (refine Or.inr ?_; omega)))); done)
      · simp only [nth]
        first | (unfold Is; rfl) | (unfold Any; exact trivial) | exact IsSl.new _ _ _ _ | assumption
    · intro ac wx hf hbs hs hp K hK
      simp only [waits, holdsA, nth, Is, Any, List.filter_cons, List.filter_nil, List.map_cons, List.map_nil, Region.binds, if_true, true_and, and_true, Nat.reduceAdd, List.getElem?_cons_zero, List.getElem?_cons_succ, Option.bind_some, Array.getD_eq_getD_getElem?] at hp
      have hs1 := hs 1 (by kernel_rfl)
      simp only [Array.getD_eq_getD_getElem?, List.getElem?_toArray, List.getElem?_cons_succ, List.getElem?_cons_zero, Option.getD_some] at hs1
      clear hs
      clear hbs
      clear hp
      clear hf
      go_simp
      try dsimp only
      refine hK.out _ _ ?_ ?_
      · change Fr [] _ _
        ((repeat (first | (with_reducible exact Fr.refl _ _) | (with_reducible assumption) | (with_reducible refine Fr.drew ?_) | (with_reducible refine Fr.drewN ?_ _) | (with_reducible refine Fr.alloc ?_ _) | (with_reducible refine Fr.setL ?_ _ _ _ ?_) | (focus (refine Or.inl ?_; simp; done)) | (focus (refine Or.inr ?_; simp; done)) | (focus (refine Or.inr ?_; simp; omega)) | (focus (refine Or.inr ?_; omega)))); done)
      · simp only [nth]
        first | (unfold Is; rfl) | (unfold Any; exact trivial) | exact IsSl.new _ _ _ _ | assumption
    · intro ac wx hf hbs hs hp K hK
      simp only [waits, holdsA, nth, Is, Any, List.filter_cons, List.filter_nil, List.map_cons, List.map_nil, Region.binds, if_true, true_and, and_true, Nat.reduceAdd, List.getElem?_cons_zero, List.getElem?_cons_succ, Option.bind_some, Array.getD_eq_getD_getElem?] at hp
      have hs3 := hs 3 (by kernel_rfl)
      simp only [Array.getD_eq_getD_getElem?, List.getElem?_toArray, List.getElem?_cons_succ, List.getElem?_cons_zero, Option.getD_some] at hs3
      clear hs
      clear hbs
      clear hp
      clear hf
      go_simp
      try dsimp only
      refine hK.out _ _ ?_ ?_
      · change Fr [] _ _
        ((repeat (first | (with_reducible exact Fr.refl _ _) | (with_reducible assumption) | (with_reducible refine Fr.drew ?_) | (with_reducible refine Fr.drewN ?_ _) | (with_reducible refine Fr.alloc ?_ _) | (with_reducible refine Fr.setL ?_ _ _ _ ?_) | (focus (refine Or.inl ?_; simp; done)) | (focus (refine Or.inr ?_; simp; done)) | (focus (refine Or.inr ?_; simp; omega)) | (focus (refine Or.inr ?_; omega)))); done)
      · simp only [nth]
        first | (unfold Is; rfl) | (unfold Any; exact trivial) | exact IsSl.new _ _ _ _ | assumption
    · intro ac wx hf hbs hs hp K hK
      simp only [waits, holdsA, nth, Is, Any, List.filter_cons, List.filter_nil, List.map_cons, List.map_nil, Region.binds, if_true, true_and, and_true, Nat.reduceAdd, List.getElem?_cons_zero, List.getElem?_cons_succ, Option.bind_some, Array.getD_eq_getD_getElem?] at hp
      clear hs
      clear hbs
      have h3 := hp
      clear hp
      have cx := kF wx hf
      clear hf
      (try simp only [h3])
      go_simp
      try dsimp only
      refine hK.out _ _ ?_ ?_
      · change Fr [] _ _
        ((repeat (first | (with_reducible exact Fr.refl _ _) | (with_reducible assumption) | (with_reducible refine Fr.drew ?_) | (with_reducible refine Fr.drewN ?_ _) | (with_reducible refine Fr.alloc ?_ _) | (with_reducible refine Fr.setL ?_ _ _ _ ?_) | (focus (refine Or.inl ?_; simp; done)) | (focus (refine Or.inr ?_; simp; done)) | (focus (refine Or.inr ?_; simp; omega)) | (focus (refine Or.inr ?_; omega)))); done)
      · simp only [nth]
        first | (unfold Is; rfl) | (unfold Any; exact trivial) | exact IsSl.new _ _ _ _ | assumption
    · intro ac wx hf hbs hs hp K hK
      simp only [waits, holdsA, nth, Is, Any, List.filter_cons, List.filter_nil, List.map_cons, List.map_nil, Region.binds, if_true, true_and, and_true, Nat.reduceAdd, List.getElem?_cons_zero, List.getElem?_cons_succ, Option.bind_some, Array.getD_eq_getD_getElem?] at hp
      have hs4 := hs 4 (by kernel_rfl)
      simp only [Array.getD_eq_getD_getElem?, List.getElem?_toArray, List.getElem?_cons_succ, List.getElem?_cons_zero, Option.getD_some] at hs4
      clear hs
      clear hbs
      clear hp
      have cx0 := kA0 wx hf
      have cx1 := kA1 wx hf
      have cx2 := kA2 wx hf
      have cx3 := kA3 wx hf
      have cx4 := kA4 wx hf
      have cx5 := kA5 wx hf
      clear hf
      go_simp
      try dsimp only
      refine hK.out _ _ ?_ ?_
      · change Fr [] _ _
        ((repeat (first | (with_reducible exact Fr.refl _ _) | (with_reducible assumption) | (with_reducible refine Fr.drew ?_) | (with_reducible refine Fr.drewN ?_ _) | (with_reducible refine Fr.alloc ?_ _) | (with_reducible refine Fr.setL ?_ _ _ _ ?_) | (focus (refine Or.inl ?_; simp; done)) | (focus (refine Or.inr ?_; simp; done)) | (focus (refine Or.inr ?_; simp; omega)) | (focus (refine Or.inr ?_; omega)))); done)
      · simp only [nth]
        first | (unfold Is; rfl) | (unfold Any; exact trivial) | exact IsSl.new _ _ _ _ | assumption
    · intro ac wx hf hbs hs hp K hK
      simp only [waits, holdsA, nth, Is, Any, List.filter_cons, List.filter_nil, List.map_cons, List.map_nil, Region.binds, if_true, true_and, and_true, Nat.reduceAdd, List.getElem?_cons_zero, List.getElem?_cons_succ, Option.bind_some, Array.getD_eq_getD_getElem?] at hp
      have hs3 := hs 3 (by kernel_rfl)
      simp only [Array.getD_eq_getD_getElem?, List.getElem?_toArray, List.getElem?_cons_succ, List.getElem?_cons_zero, Option.getD_some] at hs3
      clear hs
      clear hbs
      clear hp
      clear hf
      go_simp
      try dsimp only
      refine hK.out _ _ ?_ ?_
      · change Fr [] _ _
        ((repeat (first | (with_reducible exact Fr.refl _ _) | (with_reducible assumption) | (with_reducible refine Fr.drew ?_) | (with_reducible refine Fr.drewN ?_ _) | (with_reducible refine Fr.alloc ?_ _) | (with_reducible refine Fr.setL ?_ _ _ _ ?_) | (focus (refine Or.inl ?_; simp; done)) | (focus (refine Or.inr ?_; simp; done)) | (focus (refine Or.inr ?_; simp; omega)) | (focus (refine Or.inr ?_; omega)))); done)
      · simp only [nth]
        first | (unfold Is; rfl) | (unfold Any; exact trivial) | exact IsSl.new _ _ _ _ | assumption
    · intro ac wx hf hbs hs hp K hK
      simp only [waits, holdsA, nth, Is, Any, List.filter_cons, List.filter_nil, List.map_cons, List.map_nil, Region.binds, if_true, true_and, and_true, Nat.reduceAdd, List.getElem?_cons_zero, List.getElem?_cons_succ, Option.bind_some, Array.getD_eq_getD_getElem?] at hp
      clear hs
      clear hbs
      have h6 := hp
      clear hp
      have cx := kI wx hf
      clear hf
      (try simp only [h6])
      go_simp
      try dsimp only
      refine hK.out _ _ ?_ ?_
      · change Fr [] _ _
        ((repeat (first | (with_reducible exact Fr.refl _ _) | (with_reducible assumption) | (with_reducible refine Fr.drew ?_) | (with_reducible refine Fr.drewN ?_ _) | (with_reducible refine Fr.alloc ?_ _) | (with_reducible refine Fr.setL ?_ _ _ _ ?_) | (focus (refine Or.inl ?_; simp; done)) | (focus (refine Or.inr ?_; simp; done)) | (focus (refine Or.inr ?_; simp; omega)) | (focus (refine Or.inr ?_; omega)))); done)
      · simp only [nth]
        first | (unfold Is; rfl) | (unfold Any; exact trivial) | exact IsSl.new _ _ _ _ | assumption
    · intro ac wx hf hbs hs hp K hK
      simp only [waits, holdsA, nth, Is, Any, List.filter_cons, List.filter_nil, List.map_cons, List.map_nil, Region.binds, if_true, true_and, and_true, Nat.reduceAdd, List.getElem?_cons_zero, List.getElem?_cons_succ, Option.bind_some, Array.getD_eq_getD_getElem?] at hp
      clear hs
      have h7 := hp
      clear hp
      have hbx := hb.frL hf hLb
      clear hf
      (try simp only [h7])
      go_simp
      go_at_call 30
      refine (bytes_Clone _ N sp d.info hbx (by omega)).mono ?_
      rintro e w' ⟨sb, rfl, hbs2, hy, fz⟩
      refine hK.out _ _ ?_ ?_
      · change Fr [] _ _
        exact fz
      · simp only [nth]
        exact ⟨sb, rfl, hbs2⟩
    · intro ac wx hf hbs hs hp K hK
      simp only [waits, holdsA, nth, Is, Any, List.filter_cons, List.filter_nil, List.map_cons, List.map_nil, Region.binds, if_true, true_and, and_true, Nat.reduceAdd, List.getElem?_cons_zero, List.getElem?_cons_succ, Option.bind_some, Array.getD_eq_getD_getElem?] at hp
      clear hs
      clear hbs
      obtain ⟨h1, h2, h4, h5, h8⟩ := hp
      obtain ⟨sb, e8, hb8⟩ := h8
      clear hf
      (try simp only [h1, h2, h4, h5, e8])
      go_simp
      refine hK.out _ _ ?_ ?_
      · change Fr [] _ _
        exact Fr.refl _ _
      · simp only [nth]
        exact ⟨sb, rfl, hb8⟩
    · intro ac wx hf hbs hs hp K hK
      simp only [waits, holdsA, nth, Is, Any, List.filter_cons, List.filter_nil, List.map_cons, List.map_nil, Region.binds, if_true, true_and, and_true, Nat.reduceAdd, List.getElem?_cons_zero, List.getElem?_cons_succ, Option.bind_some, Array.getD_eq_getD_getElem?] at hp
      clear hs
      clear hbs
      have h9 := hp
      clear hp
      obtain ⟨sb, e9, hb9⟩ := h9
      clear hf
      (try simp only [e9])
      go_simp
      refine hK.out _ _ ?_ ?_
      · change Fr [] _ _
        exact (Fr.refl _ _).alloc _
      · simp only [nth]
        exact ⟨sb, Src.one, hb9.fr ((Fr.refl _ _).alloc _)⟩
    · intro ac wx hf hbs hs hp K hK
      simp only [waits, holdsA, nth, Is, Any, List.filter_cons, List.filter_nil, List.map_cons, List.map_nil, Region.binds, if_true, true_and, and_true, Nat.reduceAdd, List.getElem?_cons_zero, List.getElem?_cons_succ, Option.bind_some, Array.getD_eq_getD_getElem?] at hp
      clear hs
      clear hbs
      obtain ⟨h0, h10, h8⟩ := hp
      obtain ⟨e0, hr0⟩ := h0
      obtain ⟨sb, hs0, hb0⟩ := h10
      have hsz := hf.size
      obtain ⟨xs, ho0, hx2, hx3⟩ := id hr0
      refine Eq.mpr (if_pos (by rfl)) ?_
      refine wp_append_src (.tmp 7) (.tmp 17) 32 rfl B 56 ji (.agg #[.int .i64 0, .int .i64 0, .int .i64 0, .int .u8 0, .int .u8 0, .int .u8 0, .int .u8 0, .int .u8 0, .int .u8 0, .slice none 0 0, .int .i64 0]) 11 64 ju j0 j1 j2 j3 rfl (by decide) (.slice st.A st.n st.c) l.length _ ((eval_tmp _ _).trans e0) ho0 _ 1 _ (eval_tmp _ _) hs0 rfl (by intro u hu; simp at hu; rcases hu with rfl | rfl | rfl | rfl | rfl | rfl | rfl | rfl | rfl | rfl | rfl <;> rfl) (by unfold maxLen; omega) (by omega) (by omega) ?_
      intro v' w' ho' hg'
      have fg : Fr st.blk wx w' := Fr.grownL hg'
      have hoff := IRow.off hr0 hNB
      obtain ⟨s', rfl⟩ := own_sl' ho'
      refine hK.out _ _ ?_ ?_
      · exact stC_sl hg' (fun b hb => hb)
      · simp only [nth]
        exact ⟨s', rfl, RowG.push hx2 hx3 ho' (fun cs d ⟨s, e, h⟩ => ⟨s, e, h.frL fg hoff⟩) rfl ⟨sb, rfl, hb0.frL fg hoff⟩⟩
  case hD =>
    intro xv wx hf hp
    simp only [List.take_succ_cons, List.take_zero, List.drop_succ_cons, List.drop_zero, fill, List.setIfInBounds_toArray, List.set_cons_zero, List.set_cons_succ, Nat.reduceAdd, Act.put]
    rw [show live 12 (deadC [some 11, none, none, none, none, none, none, none, some 11, some 10, some 11, some 12]) = [1, 2, 3, 4, 5, 6, 7, 11] from by decide] at hp
    simp only [holds, nth, Is, Any, true_and, and_true] at hp
    obtain ⟨p1, p2, p3, p4, p5, p6, p7, p11⟩ := hp
    obtain ⟨s', e11, hr11⟩ := p11
    have hT2 : Blk wx T #[.slice st.A st.n st.c] 32 := HT.out.fr hf nT
    have zT := hT2.free 0
    have cT := hT2.cell 0 rfl
    have hfin : Blk (wx.setCell ⟨T, 0, none⟩ (.slice s'.A s'.n s'.c)) T #[.slice s'.A s'.n s'.c] 32 ∧ IRow N B s' (l ++ [⟨kd, n, d.fr, ad, d.info⟩]) (wx.setCell ⟨T, 0, none⟩ (.slice s'.A s'.n s'.c)) ∧ Fr (T :: st.blk) w (wx.setCell ⟨T, 0, none⟩ (.slice s'.A s'.n s'.c)) := by
      refine ⟨Blk.set hT2 0 _ rfl, ?_, (hf.mono (fun x hx => .inl (by simp [hx]))).setCell _ (.inl (by simp))⟩
      exact IRow.frL hr11 (L := [T]) ((Fr.refl _ _).setCell _ (.inl (by simp))) (fun x hx => by simp at hx; subst hx; exact ⟨hNT, hT2.noB (by decide)⟩) (fun b hb => by have := (RowG.blk hr11 b hb).1; simp; omega)
    have HFIN := Lib.hid hfin
    simp only [e11]
    clear p1 p2 p3 p4 p5 p6 e11 hr11 hfin hT2 hf kT kF kI kA0 kA1 kA2 kA3 kA4 kA5
    go_wp2
    go_end0
    exact ⟨rfl, s', HFIN.out⟩


def infoA (d : PD) (c : Int) : List Int := if d.kd = 1 then [129, canM c, 128] else d.info
def ansP (d : PD) (n c : Int) : PD := ⟨d.fr, n, true, 2, d.kd, 0, 0, d.po, infoA d c⟩
set_option maxHeartbeats 2000000 in
theorem plain_answer (n : Int) (d : PD) (sp : Sl) (w0 : World) (p : Nat) (m : List AE) (N B T P A : Nat) (st : Sl) (l : List PD) (w : World) (hM : AtM w0 w p m) (hP : Blk w P (d.arr sp) 29) (hb : Bts N w sp d.info) (hA : Blk w A #[.pointer (some ⟨p, 0, none⟩)] 23) (hT : Blk w T #[.slice st.A st.n st.c] 33) (hR : PRow N B st l w)
    (hNB : N ≤ B) (hNT : N ≤ T) (hTB : T < B) (hPB : P < B) (hAB : A < B) (hBw : B ≤ w.heap.size) (hl : l.length ≤ 1000) (hi : d.info.length ≤ 100000) :
    Calls Try.prog 31 #[.int .i64 n, .pointer (some ⟨P, 0, none⟩), .pointer (some ⟨A, 0, none⟩), .pointer (some ⟨T, 0, none⟩)] w fun e w' =>
      e = .returned (.tuple #[]) ∧ ∃ st' : Sl, Blk w' T #[.slice st'.A st'.n st'.c] 33 ∧ PRow N B st' (l ++ [ansP d n (clsA m n)]) w' ∧ Fr (T :: st.blk) w w' := by
  obtain ⟨ji, j0, j1, j2, j3⟩ := info_parts (show (Try.prog.info? 29).map (fun i => (i.zero, i.size, i.bytes)) = some (some (.agg #[.int .i64 0, .int .i64 0, .bool false, .int .i64 0, .int .i64 0, .int .i64 0, .int .i64 0, .bool false, .slice none 0 0]), 9, 88) by kernel_rfl)
  have ju : Try.prog.underlying 33 = some (.slice 29) := Try.underlying33
  have hlow : ∀ x ∈ st.blk, B ≤ x := fun x hx => (RowG.blk hR x hx).1
  have nT : T ∉ st.blk := fun h => by have := hlow _ h; omega
  have nP : P ∉ st.blk := fun h => by have := hlow _ h; omega
  have nA : A ∉ st.blk := fun h => by have := hlow _ h; omega
  have pF := hP.cell 1 rfl
  have pK := hP.cell 4 rfl
  have pO := hP.cell 7 rfl
  have pI := hP.cell 8 rfl
  have cA := hA.cell 0 rfl
  have cT := hT.cell 0 rfl
  simp only [List.getElem_toArray, List.getElem_cons_zero, List.getElem_cons_succ] at pF pK pO pI cA cT
  have HT := Lib.hid hT
  have HR := Lib.hid hR
  have HP := Lib.hid hP
  have HA := Lib.hid hA
  clear hP hA hT hR
  have hlN : l.length ≤ 1000 := hl
  by_cases h1 : d.kd = 1
  · have e1 : (d.kd == 1) = true := by simpa using h1
    have HANS := Lib.hid (show ansP d n (clsA m n) = ⟨d.fr, n, true, 2, d.kd, 0, 0, d.po, [129, canM (clsA m n), 128]⟩ by unfold ansP infoA; rw [if_pos h1])
    have hcan : 1 ≤ canM (clsA m n) ∧ canM (clsA m n) ≤ 7 := by unfold canM; split <;> (try split) <;> (try split) <;> omega
    have hcb : classB 129 (canM (clsA m n)) 64 = ([129, canM (clsA m n), 128], 0) := by unfold classB within; rw [if_pos (by simp; omega)]; rfl
    have HCB := Lib.hid hcb
    clear h1 hcb
    go_enter Try.func31, Try.ntmps31
    go_wp2_with fail
    refine (bytes_Clone _ N sp d.info hb (by omega)).mono ?_
    rintro e w1 ⟨s0, rfl, hB0, hy0, f1⟩
    have pK1 := f1.cell pK (by simp)
    have cA1 := f1.cell cA (by simp)
    have hM1 := hM.on f1
    go_wp2_with fail
    refine (Class_any w0 _ p m n hM1).mono ?_
    rintro e w2 ⟨rfl, rfl⟩
    go_wp2_with fail
    refine (plain_can _ _).mono ?_
    rintro e w2 ⟨rfl, f2⟩
    go_wp2_with fail
    refine (field_PutClass 129 (canM (clsA m n)) 64 N _).mono ?_
    rintro e W1 ⟨sb, rfl, hBs, f3⟩
    rw [HCB.out] at hBs ⊢
    have F1 : Fr [] w W1 := (f1.tr f2).tr f3
    simp only at hBs
    clear f1 f2 f3 pK1 cA1 hM1 hB0 hy0 hb hM hcan
    have pF := F1.cell pF (by simp)
    have pK := F1.cell pK (by simp)
    have pO := F1.cell pO (by simp)
    have cT := F1.cell cT (by simp)
    have hT1 := HT.out.fr F1 (by simp)
    have hR1 := PRow.fr F1 HR.out
    have hB1 := hBs.fr ((Fr.refl [] W1).alloc (.cells ((⟨d.fr, n, true, 2, d.kd, 0, 0, d.po, [129, canM (clsA m n), 128]⟩ : PD).arr sb) 29))
    have hR1a := PRow.fr ((Fr.refl [] W1).alloc (.cells ((⟨d.fr, n, true, 2, d.kd, 0, 0, d.po, [129, canM (clsA m n), 128]⟩ : PD).arr sb) 29)) hR1
    have hoff := PRow.off hR1a hNB
    obtain ⟨xs, ho, hx2, hx3⟩ := hR1a
    have hsz := F1.size
    have hT1a := hT1.alloc (.cells ((⟨d.fr, n, true, 2, d.kd, 0, 0, d.po, [129, canM (clsA m n), 128]⟩ : PD).arr sb) 29)
    have F1a : Fr [] w (W1.alloc (.cells ((⟨d.fr, n, true, 2, d.kd, 0, 0, d.po, [129, canM (clsA m n), 128]⟩ : PD).arr sb) 29)) := F1.alloc _
    go_wp2_with (at_builtin; refine wpList_append_src rfl _ _ 33 rfl B 29 ji (.agg #[.int .i64 0, .int .i64 0, .bool false, .int .i64 0, .int .i64 0, .int .i64 0, .int .i64 0, .bool false, .slice none 0 0]) 9 88 ju j0 j1 j2 j3 rfl (by decide) (.slice st.A st.n st.c) l.length _ rfl ho _ 1 _ rfl Src.one rfl (by intro u hu; simp at hu; rcases hu with rfl | rfl | rfl | rfl | rfl | rfl | rfl | rfl | rfl <;> rfl) (by unfold maxLen; omega) (by omega) (by first | (simp; omega) | omega) ?_)
    intro v' w4 ho4 hg4
    have fg : Fr st.blk (W1.alloc (.cells ((⟨d.fr, n, true, 2, d.kd, 0, 0, d.po, [129, canM (clsA m n), 128]⟩ : PD).arr sb) 29)) w4 := Fr.grownL hg4
    obtain ⟨s', rfl⟩ := own_sl' ho4
    have hT4 := hT1a.fr fg nT
    have hR4 : PRow N B s' (l ++ [⟨d.fr, n, true, 2, d.kd, 0, 0, d.po, [129, canM (clsA m n), 128]⟩]) w4 := RowG.push hx2 hx3 ho4 (fun cs d ⟨s, e, h⟩ => ⟨s, e, h.frL fg hoff⟩) rfl ⟨sb, rfl, hB1.frL fg hoff⟩
    have hfin : Blk (w4.setCell ⟨T, 0, none⟩ (.slice s'.A s'.n s'.c)) T #[.slice s'.A s'.n s'.c] 33 ∧ PRow N B s' (l ++ [⟨d.fr, n, true, 2, d.kd, 0, 0, d.po, [129, canM (clsA m n), 128]⟩]) (w4.setCell ⟨T, 0, none⟩ (.slice s'.A s'.n s'.c)) ∧ Fr (T :: st.blk) w (w4.setCell ⟨T, 0, none⟩ (.slice s'.A s'.n s'.c)) := by
      refine ⟨Blk.set hT4 0 _ rfl, ?_, ((F1a.mono (by simp)).trans (fg.mono (fun x hx => .inl (by simp [hx]))) (fun x hx => .inl hx)).setCell _ (.inl (by simp))⟩
      exact PRow.frL hR4 (L := [T]) ((Fr.refl _ _).setCell _ (.inl (by simp))) (fun x hx => by simp at hx; subst hx; exact ⟨hNT, hT4.noB (by decide)⟩) (fun b hb => by have := (RowG.blk hR4 b hb).1; simp; omega)
    have HFIN := Lib.hid hfin
    have zT := hT4.free 0
    have cT4 := hT4.cell 0 rfl
    simp only [List.getElem_toArray, List.getElem_cons_zero] at cT4
    clear hfin hR4 hT4 fg ho4 hg4 hx2 hx3 ho hR1 hT1 hT1a hB1 hBs
    go_wp2
    go_end0
    exact ⟨rfl, s', by have h9 := HFIN.out; rw [← HANS.out] at h9; exact h9⟩
  · have e1 : (d.kd == 1) = false := by simpa using h1
    have HANS := Lib.hid (show ansP d n (clsA m n) = ⟨d.fr, n, true, 2, d.kd, 0, 0, d.po, d.info⟩ by unfold ansP infoA; rw [if_neg h1])
    clear h1
    go_enter Try.func31, Try.ntmps31
    go_wp2_with fail
    refine (bytes_Clone _ N sp d.info hb (by omega)).mono ?_
    rintro e W1 ⟨sb, rfl, hBs, hy, F1⟩
    clear hb hM hy
    have pF := F1.cell pF (by simp)
    have pK := F1.cell pK (by simp)
    have pO := F1.cell pO (by simp)
    have cT := F1.cell cT (by simp)
    have hT1 := HT.out.fr F1 (by simp)
    have hR1 := PRow.fr F1 HR.out
    have hB1 := hBs.fr ((Fr.refl [] W1).alloc (.cells ((⟨d.fr, n, true, 2, d.kd, 0, 0, d.po, d.info⟩ : PD).arr sb) 29))
    have hR1a := PRow.fr ((Fr.refl [] W1).alloc (.cells ((⟨d.fr, n, true, 2, d.kd, 0, 0, d.po, d.info⟩ : PD).arr sb) 29)) hR1
    have hoff := PRow.off hR1a hNB
    obtain ⟨xs, ho, hx2, hx3⟩ := hR1a
    have hsz := F1.size
    have hT1a := hT1.alloc (.cells ((⟨d.fr, n, true, 2, d.kd, 0, 0, d.po, d.info⟩ : PD).arr sb) 29)
    have F1a : Fr [] w (W1.alloc (.cells ((⟨d.fr, n, true, 2, d.kd, 0, 0, d.po, d.info⟩ : PD).arr sb) 29)) := F1.alloc _
    go_wp2_with (at_builtin; refine wpList_append_src rfl _ _ 33 rfl B 29 ji (.agg #[.int .i64 0, .int .i64 0, .bool false, .int .i64 0, .int .i64 0, .int .i64 0, .int .i64 0, .bool false, .slice none 0 0]) 9 88 ju j0 j1 j2 j3 rfl (by decide) (.slice st.A st.n st.c) l.length _ rfl ho _ 1 _ rfl Src.one rfl (by intro u hu; simp at hu; rcases hu with rfl | rfl | rfl | rfl | rfl | rfl | rfl | rfl | rfl <;> rfl) (by unfold maxLen; omega) (by omega) (by first | (simp; omega) | omega) ?_)
    intro v' w4 ho4 hg4
    have fg : Fr st.blk (W1.alloc (.cells ((⟨d.fr, n, true, 2, d.kd, 0, 0, d.po, d.info⟩ : PD).arr sb) 29)) w4 := Fr.grownL hg4
    obtain ⟨s', rfl⟩ := own_sl' ho4
    have hT4 := hT1a.fr fg nT
    have hR4 : PRow N B s' (l ++ [⟨d.fr, n, true, 2, d.kd, 0, 0, d.po, d.info⟩]) w4 := RowG.push hx2 hx3 ho4 (fun cs d ⟨s, e, h⟩ => ⟨s, e, h.frL fg hoff⟩) rfl ⟨sb, rfl, hB1.frL fg hoff⟩
    have hfin : Blk (w4.setCell ⟨T, 0, none⟩ (.slice s'.A s'.n s'.c)) T #[.slice s'.A s'.n s'.c] 33 ∧ PRow N B s' (l ++ [⟨d.fr, n, true, 2, d.kd, 0, 0, d.po, d.info⟩]) (w4.setCell ⟨T, 0, none⟩ (.slice s'.A s'.n s'.c)) ∧ Fr (T :: st.blk) w (w4.setCell ⟨T, 0, none⟩ (.slice s'.A s'.n s'.c)) := by
      refine ⟨Blk.set hT4 0 _ rfl, ?_, ((F1a.mono (by simp)).trans (fg.mono (fun x hx => .inl (by simp [hx]))) (fun x hx => .inl hx)).setCell _ (.inl (by simp))⟩
      exact PRow.frL hR4 (L := [T]) ((Fr.refl _ _).setCell _ (.inl (by simp))) (fun x hx => by simp at hx; subst hx; exact ⟨hNT, hT4.noB (by decide)⟩) (fun b hb => by have := (RowG.blk hR4 b hb).1; simp; omega)
    have HFIN := Lib.hid hfin
    have zT := hT4.free 0
    have cT4 := hT4.cell 0 rfl
    simp only [List.getElem_toArray, List.getElem_cons_zero] at cT4
    clear hfin hR4 hT4 fg ho4 hg4 hx2 hx3 ho hR1 hT1 hT1a hB1 hBs
    go_wp2
    go_end0
    exact ⟨rfl, s', by have h9 := HFIN.out; rw [← HANS.out] at h9; exact h9⟩

end Go.Proofs.Ytgmpikaibeenmaa
