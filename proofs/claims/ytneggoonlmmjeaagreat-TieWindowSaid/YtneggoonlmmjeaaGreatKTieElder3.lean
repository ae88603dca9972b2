/- Lemmas: TieS, TieT, SeqW, TieV, ParH, TieU, TieW, ParF, MapI, MapP, MapR, TieX, TieY, TieZ, TieK, TieN, TieO, TieA, TieAa, TieAb. No condition. -/
import Derived.Test.YtneggoonlmmjeaaGreatKTieElder2
import Derived.Test.YtneggoonlmmjeaaGreatProg
import Derived.WalkKit
import Derived.Lib.Hide
import Derived.Outline
import Derived.Deep.QuietTactic
import Derived.WalkLawsBesides
import Derived.WalkSpells
import Derived.Shelf.RegionOpenPlain
import Derived.Maps.RangeWalk
import Derived.Laws.EntriesVeiled
namespace Go.Proofs.YtneggoonlmmjeaaGreat
open Go.RowKit Go.Shelf
set_option linter.unusedVariables false
set_option linter.unusedSimpArgs false
set_option maxRecDepth 100000

/-- What a connection is. -/
structure TM where
  cw : Int
  ct : Int
  ca : Int
  cp : Int
  cr : Int
  cb : Int
  near : Int
  there : Int
  state : Int
  vs : Int
  vr : Int
  va : Int
  own : Int
  other : Int
  retries : Int
  busy : Bool
  epoch : Int
  rc : Int
  rvs : Int
  rvr : Int
  rr : Bool
  rw : Bool
  rx : Bool
  ry : Bool
  rz : Bool
  rv : Bool
  used : Bool
  poll : Bool
  num : Int
  wide : Int
  count : Int
  out : Nat
  q : List (List Int)
  tm : TL
  send : List PD
  say : List Int
  took : List (List Int)
  p : Option PD
/-- Where it lies. -/
structure TV where
  t : Nat
  k : Nat
  q : Nat
  w : Nat
  c : Nat
  lo : Nat
  hi : Nat
  n0 : Nat
  tb : Value
  pp : Value
  now : Int
  ql : Sl
  cl : Sl
  os : Sl
  oy : Sl
  ok : Sl
def TM.cells (m : TM) (v : TV) : Array Value := #[.int .i64 m.cw, .int .i64 m.ct, .int .i64 m.ca, .int .i64 m.cp, .int .i64 m.cr, .int .i64 m.cb, .int .i64 m.near, .int .i64 m.there, v.tb, .int .i64 m.state, .int .i64 m.vs, .int .i64 m.vr, .int .i64 m.va, .pointer (some ⟨v.k, 0, none⟩), .pointer (some ⟨v.w, 0, none⟩), .pointer (some ⟨v.c, 0, none⟩), .int .i64 m.own, .int .i64 m.other, .int .i64 m.retries, .bool m.busy, .int .i64 m.epoch, .int .i64 m.rc, .int .i64 m.rvs, .int .i64 m.rvr, .bool m.rr, .bool m.rw, .bool m.rx, .bool m.ry, .bool m.rz, .bool m.rv, .slice v.os.A v.os.n v.os.c, .slice v.oy.A v.oy.n v.oy.c, .slice v.ok.A v.ok.n v.ok.c, .bool m.used, v.pp, .bool m.poll, .int .i64 m.num]
def TM.rest (m : TM) : Int × Int × Int × Nat × List (List Int) × TL × List PD × List Int × List (List Int) × Option PD := (m.cw, m.wide, m.count, m.out, m.q, m.tm, m.send, m.say, m.took, m.p)
def TV.foot (v : TV) : List Nat := v.t :: v.k :: v.q :: v.w :: v.c :: (v.ql.blk ++ (v.cl.blk ++ (v.os.blk ++ (v.oy.blk ++ v.ok.blk))))

/-- Of the blocks L none is a row of a type. -/
def TyOut (w : World) (L : List Nat) (t : TypeId) : Prop := ∀ x ∈ L, ∀ cs f, w.heap[x]? ≠ some (.cells cs t f)
theorem TyOut.nil (w : World) (t : TypeId) : TyOut w [] t := fun _ h => by cases h
theorem TyOut.cons {w : World} {x : Nat} {L : List Nat} {t u : TypeId} {cs : Array Value} (h : Blk w x cs u) (ne : u ≠ t) (hL : TyOut w L t) : TyOut w (x :: L) t := fun y hy cs' f e => by
  rcases List.mem_cons.1 hy with rfl | hy
  · exact ne (Blk.ty h e)
  · exact hL y hy cs' f e
theorem TyOut.own {w : World} {u t : TypeId} {z n : Nat} {s : Sl} {xs : List Value} (h : w.ownsRow 0 u z s.v n xs) (ne : u ≠ t) : TyOut w s.blk t := fun y hy cs' f e => by
  obtain ⟨_, cs, e2⟩ := own_blk h y hy
  rw [e2] at e
  cases e
  exact ne rfl
theorem TyOut.app {w : World} {A B : List Nat} {t : TypeId} (h : TyOut w A t) (k : TyOut w B t) : TyOut w (A ++ B) t := fun y hy => by
  rcases List.mem_append.1 hy with hy | hy
  · exact h y hy
  · exact k y hy
theorem Blk.ofTy {w w' : World} {b : Nat} {cs : Array Value} {t : TypeId} {L : List Nat} (h : Blk w b cs t) (f : Fr L w w') (hL : TyOut w L t) : Blk w' b cs t := h.fr f fun hm => hL b hm _ _ h
theorem own_ofTy {w w' : World} {u : TypeId} {z n : Nat} {s : Sl} {xs : List Value} {L : List Nat} (h : w.ownsRow 0 u z s.v n xs) (f : Fr L w w') (hL : TyOut w L u) : w'.ownsRow 0 u z s.v n xs :=
  ⟨h.1, h.2.imp id fun ⟨g, cap, cur, e, hg, hb, q⟩ => ⟨g, cap, cur, e, hg, f.keeps hb fun hm => hL g hm _ _ hb, q⟩⟩
theorem Blk.nin {w : World} {b : Nat} {cs : Array Value} {t : TypeId} {L : List Nat} (h : Blk w b cs t) (hL : TyOut w L t) : b ∉ L := fun hm => hL b hm _ _ h
theorem own_nin {w : World} {u : TypeId} {z n : Nat} {s : Sl} {xs : List Value} {L : List Nat} (h : w.ownsRow 0 u z s.v n xs) (hL : TyOut w L u) : ∀ b ∈ s.blk, b ∉ L := fun b hb hm => by
  obtain ⟨_, cs, e⟩ := own_blk h b hb
  exact hL b hm _ _ e
theorem BRow.own {s : Sl} {l : List (List Int)} {w : World} (h : BRow s l w) : ∃ xs, w.ownsRow 0 49 1 s.v l.length xs := by obtain ⟨xs, h1, _⟩ := h; exact ⟨_, h1⟩
theorem PRow.own {s : Sl} {l : List PD} {w : World} (h : PRow 0 0 s l w) : ∃ xs, w.ownsRow 0 52 9 s.v l.length xs := by obtain ⟨xs, h1, _⟩ := h; exact ⟨_, h1⟩
theorem PRow.ofTy {s : Sl} {l : List PD} {w w' : World} {L : List Nat} (h : PRow 0 0 s l w) (f : Fr L w w') (hL : TyOut w L 52) (hU : TyOut w L 5) : PRow 0 0 s l w' := by
  obtain ⟨xs, ho⟩ := h.own
  exact PRow.frL h f (fun x hx => ⟨Nat.zero_le _, hU x hx⟩) (own_nin ho hL)

/-- The table of rows, somewhere from lo to hi. -/
def TabAt (w : World) (tb : Value) (lo hi : Nat) : Prop := ∃ g cap bs, tb = .slice (some ⟨g, 0, none⟩) 14 cap ∧ IsT w g bs rowsM ∧ bs 14 = lo ∧ lo ≤ g ∧ g < hi ∧ (∀ s, s < 14 → lo ≤ bs s ∧ bs s < hi) ∧
  ∀ s, s < 14 → ∀ e, e < 34 → ∃ sl : Sl, w.cell? ⟨bs s, e * 3, none⟩ = some (.slice sl.A sl.n sl.c) ∧ Ints .i64 w sl.v (rowsM s e).doL ∧ ((rowsM s e).doL ≠ [] → ∀ A n c, sl.v = .slice (some A) n c → lo ≤ A.block ∧ A.block < hi)
theorem Ints.nilfr {k : IntKind} {w w' : World} {v : Value} (h : Ints k w v []) : Ints k w' v [] := by
  rcases h with ⟨e, _⟩ | ⟨A, cap, e, h⟩
  · exact .inl ⟨e, rfl⟩
  · exact .inr ⟨A, cap, e, by simp, .inl rfl⟩
theorem Ints.lt {w : World} {k : IntKind} {s : Sl} {l : List Int} (h : Ints k w s.v l) (hl : l ≠ []) : ∀ A n c, s.v = .slice (some A) n c → A.block < w.heap.size := by
  intro A n c e
  rcases h with ⟨_, e'⟩ | ⟨A', cap, e', hi⟩
  · exact absurd e' hl
  · rw [e] at e'
    simp only [Value.slice.injEq, Option.some.injEq] at e'
    obtain ⟨rfl, -, -⟩ := e'
    obtain ⟨b, off, x, hA, hc, _⟩ := hi.at_ 0 (List.length_pos_iff.2 hl)
    cases hA
    exact World.block_lt_of_cell? _ _ hc
/-- What lies from lo to hi is as it was. -/
theorem TabAt.fr {w w' : World} {tb : Value} {lo hi : Nat} {L : List Nat} (h : TabAt w tb lo hi) (f : Fr L w w') (hL : ∀ x ∈ L, x < lo ∨ hi ≤ x) : TabAt w' tb lo hi := by
  obtain ⟨g, cap, bs, rfl, hT, h14, hg0, hg1, hbs, hdo⟩ := h
  have nin : ∀ x, lo ≤ x → x < hi → x ∉ L := fun x h0 h1 hm => by have := hL x hm; omega
  have hrow : ∀ s, s < 14 → ∀ e, e < 34 → ∃ sl : Sl, w'.cell? ⟨bs s, e * 3, none⟩ = some (.slice sl.A sl.n sl.c) ∧ Ints .i64 w' sl.v (rowsM s e).doL ∧ ((rowsM s e).doL ≠ [] → ∀ A n c, sl.v = .slice (some A) n c → lo ≤ A.block ∧ A.block < hi) := by
    intro s hs e he
    obtain ⟨sl, h1, h2, h3⟩ := hdo s hs e he
    refine ⟨sl, f.cell h1 (nin _ (hbs s hs).1 (hbs s hs).2), ?_, h3⟩
    by_cases hl : (rowsM s e).doL = []
    · rw [hl] at h2 ⊢
      exact h2.nilfr
    · exact h2.frL f (fun A n c e => nin _ (h3 hl A n c e).1 (h3 hl A n c e).2)
  refine ⟨g, cap, bs, rfl, ⟨fun s hs => f.cell (hT.outer s hs) (nin _ hg0 hg1), fun s hs e he => ?_, fun s hs i => ?_, hT.inj, hT.off, by have := hT.low; have := f.size; omega⟩, h14, hg0, hg1, hbs, hrow⟩
  · obtain ⟨sl, h1, h2, h3⟩ := hrow s hs e he
    obtain ⟨s0, p0, p1, p2, p3, p4⟩ := hT.row s hs e he
    have nb := nin _ (hbs s hs).1 (hbs s hs).2
    have q0 := f.cell p0 nb
    rw [h1] at q0
    have eA : sl.v = s0.v := by simpa using q0
    exact ⟨sl, h1, f.cell p1 nb, f.cell p2 nb, h2, fun A n c e => p4 A n c (eA ▸ e)⟩
  · rw [World.frozen?_of_block (w := w) (f.block (bs s) (by obtain ⟨s0, p0, _⟩ := hT.row s hs 0 (by omega); exact World.block_lt_of_cell? w _ p0) (nin _ (hbs s hs).1 (hbs s hs).2))]
    exact hT.free s hs i

/-- What is heard, if anything is. -/
def HeardAt (w : World) (n0 : Nat) (pp : Value) (os : Sl) : Option PD → Prop
  | none => pp = .pointer none
  | some d => ∃ b s, pp = .pointer (some ⟨b, 0, none⟩) ∧ Blk w b (d.arr s) 52 ∧ Bts n0 w s d.info ∧ b ∉ os.blk
theorem HeardAt.frL {w w' : World} {n0 : Nat} {pp : Value} {os : Sl} {p : Option PD} {L : List Nat} (h : HeardAt w n0 pp os p) (f : Fr L w w') (hP : TyOut w L 52) (hU : TyOut w L 5) (hn : ∀ x ∈ L, n0 ≤ x) : HeardAt w' n0 pp os p := by
  cases p with
  | none => exact h
  | some d =>
    obtain ⟨b, s, e, hb, hs, ho⟩ := h
    exact ⟨b, s, e, hb.ofTy f hP, hs.frL f fun x hx => ⟨hn x hx, hU x hx⟩, ho⟩
/-- Behind what goes. -/
theorem HeardAt.os {w w' : World} {n0 : Nat} {pp : Value} {os os' : Sl} {p : Option PD} (h : HeardAt w n0 pp os p) (f : Fr os.blk w w') (hU : TyOut w os.blk 5) (hn : ∀ x ∈ os.blk, n0 ≤ x) (n : ∀ x ∈ os'.blk, x ∈ os.blk ∨ w.heap.size ≤ x) : HeardAt w' n0 pp os' p := by
  cases p with
  | none => exact h
  | some d =>
    obtain ⟨b, s, e, hb, hs, ho⟩ := h
    refine ⟨b, s, e, hb.fr f ho, hs.frL f fun x hx => ⟨hn x hx, hU x hx⟩, fun hm => ?_⟩
    rcases n b hm with h1 | h1
    · exact ho h1
    · have := hb.lt; omega
/-- Where a connection lies, and what it is. -/
structure IsTie (w : World) (v : TV) (m : TM) : Prop where
  blk : Blk w v.t (m.cells v) 105
  back : IsBack w v.k v.q v.ql 64 m.out m.q
  win : Blk w v.w #[.int .i64 m.cw, .int .i64 m.wide, .int .i64 m.count] 139
  clk : IsClk w v.c v.cl 4 v.now m.tm
  os : PRow 0 0 v.os m.send w
  oy : w.ownsRow 0 3 1 v.oy.v m.say.length (m.say.map (Value.int .i64))
  ok : BRow v.ok m.took w
  dis : ∀ x ∈ v.ql.blk, x ∉ v.ok.blk
  tab : TabAt w v.tb v.lo v.hi
  hile : v.hi ≤ w.heap.size
  lohi : ∀ x ∈ v.foot, x < v.lo ∨ v.hi ≤ x
  hd : HeardAt w v.n0 v.pp v.os m.p
  low : v.n0 ≤ v.hi ∧ ∀ x ∈ v.foot, v.n0 ≤ x
/-- What stays of where it lies. -/
def TV.fix (v : TV) : Value × Nat × Nat × Nat × Nat × Nat × Nat × Nat × Value := (v.pp, v.k, v.q, v.w, v.c, v.lo, v.hi, v.n0, v.tb)
/-- What a connection turns to. -/
def TieTo (w w' : World) (v : TV) (m : TM) : Prop := ∃ v' : TV, IsTie w' v' m ∧ v'.t = v.t ∧ v'.fix = v.fix ∧ Fr v.foot w w' ∧ ∀ x ∈ v'.foot, x ∈ v.foot ∨ w.heap.size ≤ x
theorem IsTie.lt {w : World} {v : TV} {m : TM} (h : IsTie w v m) : ∀ x ∈ v.foot, x < w.heap.size := by
  intro x hx
  simp only [TV.foot, List.mem_cons, List.mem_append] at hx
  obtain ⟨xs, ho⟩ := h.os.own
  obtain ⟨ys, hk⟩ := h.ok.own
  obtain ⟨zs, hq⟩ := h.back.que.row.own
  have key : ∀ {u : TypeId} {z n : Nat} {s : Sl} {xs : List Value}, w.ownsRow 0 u z s.v n xs → x ∈ s.blk → x < w.heap.size := fun ho hm => by
    obtain ⟨_, cs, e⟩ := own_blk ho x hm
    exact (Array.getElem?_eq_some_iff.1 e).1
  rcases hx with rfl | rfl | rfl | rfl | rfl | hx | hx | hx | hx | hx
  · exact h.blk.lt
  · exact h.back.back.lt
  · exact h.back.que.head.lt
  · exact h.win.lt
  · exact h.clk.head.lt
  · exact key hq hx
  · exact key h.clk.own hx
  · exact key ho hx
  · exact key h.oy hx
  · exact key hk hx
theorem IsBack.ofTy {w w' : World} {k q : Nat} {s : Sl} {most out : Int} {l : List (List Int)} {L : List Nat} (h : IsBack w k q s most out l) (f : Fr L w w') (h1 : TyOut w L 150) (h2 : TyOut w L 184) (h3 : ∀ x ∈ s.blk, x ∉ L) (hU : TyOut w L 5) : IsBack w' k q s most out l :=
  h.fr f (fun x hx => by
    simp only [List.mem_cons] at hx
    rcases hx with rfl | rfl | hx
    · exact h.back.nin h1
    · exact h.que.head.nin h2
    · exact h3 x hx) hU
theorem IsClk.ofTy {w w' : World} {b : Nat} {s : Sl} {most now : Int} {l : TL} {L : List Nat} (h : IsClk w b s most now l) (f : Fr L w w') (h1 : TyOut w L 153) (h2 : TyOut w L 158) : IsClk w' b s most now l :=
  h.fr f (fun x hx => by
    rcases List.mem_cons.1 hx with rfl | hx
    · exact h.head.nin h1
    · exact own_nin h.own h2 x hx)
theorem IsTie.fr0 {w w' : World} {v : TV} {m : TM} (h : IsTie w v m) (f : Fr [] w w') : IsTie w' v m :=
  ⟨h.blk.fr f (by simp), h.back.fr0 f, h.win.fr f (by simp), h.clk.fr f (by simp), PRow.fr f h.os, own_fr h.oy f, BRow.fr f h.ok, h.dis, h.tab.fr f (by simp), Nat.le_trans h.hile f.size, h.lohi, h.hd.frL f (TyOut.nil _ _) (TyOut.nil _ _) (by simp), h.low⟩
theorem IsTie.to {w w' : World} {v : TV} {m : TM} (h : IsTie w v m) (f : Fr [] w w') : TieTo w w' v m := ⟨v, h.fr0 f, rfl, rfl, f.mono (by simp), fun x hx => .inl hx⟩
theorem TieTo.trans {w w1 w2 : World} {v v1 : TV} {m2 : TM} (f : Fr v.foot w w1) (n : ∀ x ∈ v1.foot, x ∈ v.foot ∨ w.heap.size ≤ x) (et : v1.t = v.t) (ep : v1.fix = v.fix) (h : TieTo w1 w2 v1 m2) : TieTo w w2 v m2 := by
  obtain ⟨v2, h2, e2, p2, f2, n2⟩ := h
  refine ⟨v2, h2, e2.trans et, p2.trans ep, f.trans f2 n, fun x hx => ?_⟩
  rcases n2 x hx with h3 | h3
  · exact n x h3
  · exact .inr (Nat.le_trans f.size h3)
/-- Cells of the connection itself. -/
theorem IsTie.upd {w w' : World} {v : TV} {m m' : TM} (h : IsTie w v m) (f : Fr [v.t] w w') (hb : Blk w' v.t (m'.cells v) 105) (e : m'.rest = m.rest) : IsTie w' v m' := by
  simp only [TM.rest, Prod.mk.injEq] at e
  obtain ⟨e1, e2, e3, e4, e5, e6, e7, e8, e9, e10⟩ := e
  have to : ∀ t, 105 ≠ t → TyOut w [v.t] t := fun t ne => TyOut.cons h.blk ne (TyOut.nil _ _)
  have hlt := h.lohi
  refine ⟨hb, ?_, ?_, ?_, ?_, ?_, ?_, h.dis, h.tab.fr f (fun x hx => h.lohi x (by simp at hx; subst hx; simp [TV.foot])), Nat.le_trans h.hile f.size, h.lohi, ?_, h.low⟩
  · rw [e4, e5]; exact h.back.ofTy f (to _ (by decide)) (to _ (by decide)) (by obtain ⟨_, ho⟩ := h.back.que.row.own; exact own_nin ho (to _ (by decide))) (to _ (by decide))
  · rw [e1, e2, e3]; exact h.win.ofTy f (to _ (by decide))
  · rw [e6]; exact h.clk.ofTy f (to _ (by decide)) (to _ (by decide))
  · rw [e7]; exact h.os.ofTy f (to _ (by decide)) (to _ (by decide))
  · rw [e8]; exact own_ofTy h.oy f (to _ (by decide))
  · rw [e9]; exact h.ok.frL f (to _ (by decide)) (by obtain ⟨_, ho⟩ := h.ok.own; exact own_nin ho (to _ (by decide)))
  · rw [e10]; exact h.hd.frL f (to _ (by decide)) (to _ (by decide)) (fun x hx => h.low.2 x (by simp at hx; subst hx; simp [TV.foot]))
theorem IsTie.set1 {w : World} {v : TV} {m : TM} (h : IsTie w v m) (i : Nat) (x : Value) (m' : TM) (e : m'.cells v = (m.cells v).setIfInBounds i x) (r : m'.rest = m.rest) : IsTie (w.setCell ⟨v.t, i, none⟩ x) v m' ∧ Fr [v.t] w (w.setCell ⟨v.t, i, none⟩ x) :=
  ⟨h.upd ((Fr.refl [v.t] w).setCell _ (.inl (by simp))) (Blk.set h.blk i x e) r, (Fr.refl [v.t] w).setCell _ (.inl (by simp))⟩
theorem TV.t_foot (v : TV) : v.t ∈ v.foot := by simp [TV.foot]
theorem IsTie.toT {w w' : World} {v : TV} {m : TM} (h : IsTie w' v m) (f : Fr [v.t] w w') : TieTo w w' v m := ⟨v, h, rfl, rfl, f.mono (fun x hx => .inl (by simp at hx; subst hx; exact v.t_foot)), fun x hx => .inl hx⟩

theorem IsTie.c0 {w : World} {v : TV} {m : TM} (h : IsTie w v m) : w.cell? ⟨v.t, 0, none⟩ = some (.int .i64 m.cw) := Blk.cell h.blk 0 rfl
theorem IsTie.c1 {w : World} {v : TV} {m : TM} (h : IsTie w v m) : w.cell? ⟨v.t, 1, none⟩ = some (.int .i64 m.ct) := Blk.cell h.blk 1 rfl
theorem IsTie.c2 {w : World} {v : TV} {m : TM} (h : IsTie w v m) : w.cell? ⟨v.t, 2, none⟩ = some (.int .i64 m.ca) := Blk.cell h.blk 2 rfl
theorem IsTie.c3 {w : World} {v : TV} {m : TM} (h : IsTie w v m) : w.cell? ⟨v.t, 3, none⟩ = some (.int .i64 m.cp) := Blk.cell h.blk 3 rfl
theorem IsTie.c4 {w : World} {v : TV} {m : TM} (h : IsTie w v m) : w.cell? ⟨v.t, 4, none⟩ = some (.int .i64 m.cr) := Blk.cell h.blk 4 rfl
theorem IsTie.c5 {w : World} {v : TV} {m : TM} (h : IsTie w v m) : w.cell? ⟨v.t, 5, none⟩ = some (.int .i64 m.cb) := Blk.cell h.blk 5 rfl
theorem IsTie.c6 {w : World} {v : TV} {m : TM} (h : IsTie w v m) : w.cell? ⟨v.t, 6, none⟩ = some (.int .i64 m.near) := Blk.cell h.blk 6 rfl
theorem IsTie.c7 {w : World} {v : TV} {m : TM} (h : IsTie w v m) : w.cell? ⟨v.t, 7, none⟩ = some (.int .i64 m.there) := Blk.cell h.blk 7 rfl
theorem IsTie.c8 {w : World} {v : TV} {m : TM} (h : IsTie w v m) : w.cell? ⟨v.t, 8, none⟩ = some (v.tb) := Blk.cell h.blk 8 rfl
theorem IsTie.c9 {w : World} {v : TV} {m : TM} (h : IsTie w v m) : w.cell? ⟨v.t, 9, none⟩ = some (.int .i64 m.state) := Blk.cell h.blk 9 rfl
theorem IsTie.c10 {w : World} {v : TV} {m : TM} (h : IsTie w v m) : w.cell? ⟨v.t, 10, none⟩ = some (.int .i64 m.vs) := Blk.cell h.blk 10 rfl
theorem IsTie.c11 {w : World} {v : TV} {m : TM} (h : IsTie w v m) : w.cell? ⟨v.t, 11, none⟩ = some (.int .i64 m.vr) := Blk.cell h.blk 11 rfl
theorem IsTie.c12 {w : World} {v : TV} {m : TM} (h : IsTie w v m) : w.cell? ⟨v.t, 12, none⟩ = some (.int .i64 m.va) := Blk.cell h.blk 12 rfl
theorem IsTie.c13 {w : World} {v : TV} {m : TM} (h : IsTie w v m) : w.cell? ⟨v.t, 13, none⟩ = some (.pointer (some ⟨v.k, 0, none⟩)) := Blk.cell h.blk 13 rfl
theorem IsTie.c14 {w : World} {v : TV} {m : TM} (h : IsTie w v m) : w.cell? ⟨v.t, 14, none⟩ = some (.pointer (some ⟨v.w, 0, none⟩)) := Blk.cell h.blk 14 rfl
theorem IsTie.c15 {w : World} {v : TV} {m : TM} (h : IsTie w v m) : w.cell? ⟨v.t, 15, none⟩ = some (.pointer (some ⟨v.c, 0, none⟩)) := Blk.cell h.blk 15 rfl
theorem IsTie.c16 {w : World} {v : TV} {m : TM} (h : IsTie w v m) : w.cell? ⟨v.t, 16, none⟩ = some (.int .i64 m.own) := Blk.cell h.blk 16 rfl
theorem IsTie.c17 {w : World} {v : TV} {m : TM} (h : IsTie w v m) : w.cell? ⟨v.t, 17, none⟩ = some (.int .i64 m.other) := Blk.cell h.blk 17 rfl
theorem IsTie.c18 {w : World} {v : TV} {m : TM} (h : IsTie w v m) : w.cell? ⟨v.t, 18, none⟩ = some (.int .i64 m.retries) := Blk.cell h.blk 18 rfl
theorem IsTie.c19 {w : World} {v : TV} {m : TM} (h : IsTie w v m) : w.cell? ⟨v.t, 19, none⟩ = some (.bool m.busy) := Blk.cell h.blk 19 rfl
theorem IsTie.c20 {w : World} {v : TV} {m : TM} (h : IsTie w v m) : w.cell? ⟨v.t, 20, none⟩ = some (.int .i64 m.epoch) := Blk.cell h.blk 20 rfl
theorem IsTie.c21 {w : World} {v : TV} {m : TM} (h : IsTie w v m) : w.cell? ⟨v.t, 21, none⟩ = some (.int .i64 m.rc) := Blk.cell h.blk 21 rfl
theorem IsTie.c22 {w : World} {v : TV} {m : TM} (h : IsTie w v m) : w.cell? ⟨v.t, 22, none⟩ = some (.int .i64 m.rvs) := Blk.cell h.blk 22 rfl
theorem IsTie.c23 {w : World} {v : TV} {m : TM} (h : IsTie w v m) : w.cell? ⟨v.t, 23, none⟩ = some (.int .i64 m.rvr) := Blk.cell h.blk 23 rfl
theorem IsTie.c24 {w : World} {v : TV} {m : TM} (h : IsTie w v m) : w.cell? ⟨v.t, 24, none⟩ = some (.bool m.rr) := Blk.cell h.blk 24 rfl
theorem IsTie.c25 {w : World} {v : TV} {m : TM} (h : IsTie w v m) : w.cell? ⟨v.t, 25, none⟩ = some (.bool m.rw) := Blk.cell h.blk 25 rfl
theorem IsTie.c26 {w : World} {v : TV} {m : TM} (h : IsTie w v m) : w.cell? ⟨v.t, 26, none⟩ = some (.bool m.rx) := Blk.cell h.blk 26 rfl
theorem IsTie.c27 {w : World} {v : TV} {m : TM} (h : IsTie w v m) : w.cell? ⟨v.t, 27, none⟩ = some (.bool m.ry) := Blk.cell h.blk 27 rfl
theorem IsTie.c28 {w : World} {v : TV} {m : TM} (h : IsTie w v m) : w.cell? ⟨v.t, 28, none⟩ = some (.bool m.rz) := Blk.cell h.blk 28 rfl
theorem IsTie.c29 {w : World} {v : TV} {m : TM} (h : IsTie w v m) : w.cell? ⟨v.t, 29, none⟩ = some (.bool m.rv) := Blk.cell h.blk 29 rfl
theorem IsTie.c30 {w : World} {v : TV} {m : TM} (h : IsTie w v m) : w.cell? ⟨v.t, 30, none⟩ = some (.slice v.os.A v.os.n v.os.c) := Blk.cell h.blk 30 rfl
theorem IsTie.c31 {w : World} {v : TV} {m : TM} (h : IsTie w v m) : w.cell? ⟨v.t, 31, none⟩ = some (.slice v.oy.A v.oy.n v.oy.c) := Blk.cell h.blk 31 rfl
theorem IsTie.c32 {w : World} {v : TV} {m : TM} (h : IsTie w v m) : w.cell? ⟨v.t, 32, none⟩ = some (.slice v.ok.A v.ok.n v.ok.c) := Blk.cell h.blk 32 rfl
theorem IsTie.c33 {w : World} {v : TV} {m : TM} (h : IsTie w v m) : w.cell? ⟨v.t, 33, none⟩ = some (.bool m.used) := Blk.cell h.blk 33 rfl
theorem IsTie.c34 {w : World} {v : TV} {m : TM} (h : IsTie w v m) : w.cell? ⟨v.t, 34, none⟩ = some (v.pp) := Blk.cell h.blk 34 rfl
theorem IsTie.c35 {w : World} {v : TV} {m : TM} (h : IsTie w v m) : w.cell? ⟨v.t, 35, none⟩ = some (.bool m.poll) := Blk.cell h.blk 35 rfl
theorem IsTie.c36 {w : World} {v : TV} {m : TM} (h : IsTie w v m) : w.cell? ⟨v.t, 36, none⟩ = some (.int .i64 m.num) := Blk.cell h.blk 36 rfl
theorem IsTie.z {w : World} {v : TV} {m : TM} (h : IsTie w v m) (i : Nat) : w.frozen? ⟨v.t, i, none⟩ = false := Blk.free h.blk i

end Go.Proofs.YtneggoonlmmjeaaGreat
namespace Go.Proofs.YtneggoonlmmjeaaGreat
open Go.RowKit Go.Shelf
set_option linter.unusedVariables false
set_option linter.unusedSimpArgs false
set_option maxRecDepth 100000

theorem fsub {A : List Nat} {B : List Nat} {w w' : World} (f : Fr A w w') (h : ∀ x ∈ A, x ∈ B) : Fr B w w' := f.mono (fun x hx => .inl (h x hx))
theorem IsTie.setClk1 {w w' : World} {v : TV} {m : TM} {now' : Int} {l : TL} {s' : Sl} (h : IsTie w v m) (hk : IsClk w' v.c s' 4 now' l) (f : Fr (v.c :: v.cl.blk) w w') (n : ∀ x ∈ s'.blk, x ∈ v.cl.blk ∨ w.heap.size ≤ x) : IsTie w' { v with cl := s', now := now' } { m with tm := l } ∧ Fr v.foot w w' ∧ ∀ x ∈ ({ v with cl := s', now := now' } : TV).foot, x ∈ v.foot ∨ w.heap.size ≤ x := by
  have to : ∀ t, 153 ≠ t → 158 ≠ t → TyOut w (v.c :: v.cl.blk) t := fun t n1 n2 => TyOut.cons h.clk.head n1 (TyOut.own h.clk.own n2)
  have hn : ∀ x ∈ ({ v with cl := s', now := now' } : TV).foot, x ∈ v.foot ∨ w.heap.size ≤ x := fun x hx => by
    simp only [TV.foot, List.mem_cons, List.mem_append] at hx ⊢
    rcases hx with hx | hx | hx | hx | hx | hx | hx | hx | hx | hx
    any_goals (left; simp [hx]; done)
    rcases n x hx with h1 | h1
    · left; simp [h1]
    · exact .inr h1
  refine ⟨⟨h.blk.ofTy f (to _ (by decide) (by decide)), ?_, h.win.ofTy f (to _ (by decide) (by decide)), hk, h.os.ofTy f (to _ (by decide) (by decide)) (to _ (by decide) (by decide)), own_ofTy h.oy f (to _ (by decide) (by decide)), ?_, h.dis, ?_, Nat.le_trans h.hile f.size, ?_, h.hd.frL f (to _ (by decide) (by decide)) (to _ (by decide) (by decide)) (fun x hx => h.low.2 x (by simp only [TV.foot, List.mem_cons, List.mem_append] at hx ⊢; rcases hx with hx | hx <;> simp [hx])), ?_⟩, fsub f (fun x hx => ?_), hn⟩
  · exact h.back.ofTy f (to _ (by decide) (by decide)) (to _ (by decide) (by decide)) (by obtain ⟨_, ho⟩ := h.back.que.row.own; exact own_nin ho (to _ (by decide) (by decide))) (to _ (by decide) (by decide))
  · exact h.ok.frL f (to _ (by decide) (by decide)) (by obtain ⟨_, ho⟩ := h.ok.own; exact own_nin ho (to _ (by decide) (by decide)))
  · exact h.tab.fr f (fun x hx => h.lohi x (by simp only [TV.foot, List.mem_cons, List.mem_append] at hx ⊢; rcases hx with hx | hx <;> simp [hx]))
  · intro x hx
    rcases hn x hx with h1 | h1
    · exact h.lohi x h1
    · exact .inr (Nat.le_trans h.hile h1)
  · refine ⟨h.low.1, fun x hx => ?_⟩
    rcases hn x hx with h1 | h1
    · exact h.low.2 x h1
    · exact Nat.le_trans h.low.1 (Nat.le_trans h.hile h1)
  · simp only [TV.foot, List.mem_cons, List.mem_append] at hx ⊢
    rcases hx with hx | hx <;> simp [hx]
theorem IsTie.setClk {w w' : World} {v : TV} {m : TM} {now' : Int} {l : TL} (h : IsTie w v m) (hc : ClkTo w w' v.c v.cl 4 now' l) : TieTo w w' v { m with tm := l } := by
  obtain ⟨s', hk, f, n⟩ := hc
  obtain ⟨h1, h2, h3⟩ := h.setClk1 hk f n
  exact ⟨_, h1, rfl, rfl, h2, h3⟩

theorem IsTie.setBack {w w' : World} {v : TV} {m : TM} {out : Nat} {l : List (List Int)} (h : IsTie w v m) (hc : BackTo w w' v.k v.q v.ql 64 out l) : TieTo w w' v { m with out := out, q := l } := by
  obtain ⟨s', hk, f, n⟩ := hc
  obtain ⟨xs, ho⟩ := h.back.que.row.own
  obtain ⟨ys, hok⟩ := h.ok.own
  have to : ∀ t, 150 ≠ t → 184 ≠ t → 49 ≠ t → TyOut w (v.k :: v.q :: v.ql.blk) t := fun t n1 n2 n3 => TyOut.cons h.back.back n1 (TyOut.cons h.back.que.head n2 (TyOut.own ho n3))
  have hn : ∀ x ∈ ({ v with ql := s' } : TV).foot, x ∈ v.foot ∨ w.heap.size ≤ x := fun x hx => by
    simp only [TV.foot, List.mem_cons, List.mem_append] at hx ⊢
    rcases hx with hx | hx | hx | hx | hx | hx | hx | hx | hx | hx
    any_goals (left; simp [hx]; done)
    rcases n x hx with h1 | h1
    · left; simp [h1]
    · exact .inr h1
  have hnk : ∀ x ∈ v.ok.blk, x ∉ v.k :: v.q :: v.ql.blk := fun x hx hm => by
    obtain ⟨_, cs, e⟩ := own_blk hok x hx
    simp only [List.mem_cons] at hm
    rcases hm with rfl | rfl | hm
    · exact absurd (Blk.ty h.back.back e) (by decide)
    · exact absurd (Blk.ty h.back.que.head e) (by decide)
    · exact h.dis x hm hx
  refine ⟨{ v with ql := s' }, ⟨h.blk.ofTy f (to _ (by decide) (by decide) (by decide)), hk, h.win.ofTy f (to _ (by decide) (by decide) (by decide)), h.clk.ofTy f (to _ (by decide) (by decide) (by decide)) (to _ (by decide) (by decide) (by decide)), h.os.ofTy f (to _ (by decide) (by decide) (by decide)) (to _ (by decide) (by decide) (by decide)), own_ofTy h.oy f (to _ (by decide) (by decide) (by decide)), ?_, ?_, ?_, Nat.le_trans h.hile f.size, ?_, h.hd.frL f (to _ (by decide) (by decide) (by decide)) (to _ (by decide) (by decide) (by decide)) (fun x hx => h.low.2 x (by simp only [TV.foot, List.mem_cons, List.mem_append] at hx ⊢; rcases hx with hx | hx | hx <;> simp [hx])), ?_⟩, rfl, rfl, fsub f (fun x hx => ?_), hn⟩
  · exact h.ok.frL f (to _ (by decide) (by decide) (by decide)) hnk
  · intro x hx hm
    rcases n x hx with h1 | h1
    · exact h.dis x h1 hm
    · have := h.lt x (by simp [TV.foot, hm])
      omega
  · exact h.tab.fr f (fun x hx => h.lohi x (by simp only [TV.foot, List.mem_cons, List.mem_append] at hx ⊢; rcases hx with hx | hx | hx <;> simp [hx]))
  · intro x hx
    rcases hn x hx with h1 | h1
    · exact h.lohi x h1
    · exact .inr (Nat.le_trans h.hile h1)
  · refine ⟨h.low.1, fun x hx => ?_⟩
    rcases hn x hx with h1 | h1
    · exact h.low.2 x h1
    · exact Nat.le_trans h.low.1 (Nat.le_trans h.hile h1)
  · simp only [TV.foot, List.mem_cons, List.mem_append] at hx ⊢
    rcases hx with hx | hx | hx <;> simp [hx]
theorem BackTo.of {w w' : World} {k q : Nat} {s : Sl} {most out : Int} {l : List (List Int)} (h : IsBack w' k q s most out l) (f : Fr [k] w w') : BackTo w w' k q s most out l := ⟨s, h, fsub f (by simp), fun x hx => .inl hx⟩

theorem IsTie.setWin {w w' : World} {v : TV} {m : TM} {d c : Int} (h : IsTie w v m) (hw : Blk w' v.w #[.int .i64 m.cw, .int .i64 d, .int .i64 c] 139) (f : Fr [v.w] w w') : IsTie w' v { m with wide := d, count := c } ∧ Fr v.foot w w' := by
  have to : ∀ t, 139 ≠ t → TyOut w [v.w] t := fun t ne => TyOut.cons h.win ne (TyOut.nil _ _)
  have hf : ∀ x ∈ [v.w], x ∈ v.foot := fun x hx => by simp at hx; subst hx; simp [TV.foot]
  refine ⟨⟨h.blk.ofTy f (to _ (by decide)), ?_, hw, h.clk.ofTy f (to _ (by decide)) (to _ (by decide)), h.os.ofTy f (to _ (by decide)) (to _ (by decide)), own_ofTy h.oy f (to _ (by decide)), ?_, h.dis, h.tab.fr f (fun x hx => h.lohi x (hf x hx)), Nat.le_trans h.hile f.size, h.lohi, h.hd.frL f (to _ (by decide)) (to _ (by decide)) (fun x hx => h.low.2 x (hf x hx)), h.low⟩, fsub f hf⟩
  · exact h.back.ofTy f (to _ (by decide)) (to _ (by decide)) (by obtain ⟨_, ho⟩ := h.back.que.row.own; exact own_nin ho (to _ (by decide))) (to _ (by decide))
  · exact h.ok.frL f (to _ (by decide)) (by obtain ⟨_, ho⟩ := h.ok.own; exact own_nin ho (to _ (by decide)))
theorem IsTie.setBack1 {w w' : World} {v : TV} {m : TM} {out : Nat} {l : List (List Int)} (h : IsTie w v m) (hk : IsBack w' v.k v.q v.ql 64 out l) (f : Fr [v.k] w w') : IsTie w' v { m with out := out, q := l } ∧ Fr v.foot w w' := by
  have to : ∀ t, 150 ≠ t → TyOut w [v.k] t := fun t ne => TyOut.cons h.back.back ne (TyOut.nil _ _)
  have hf : ∀ x ∈ [v.k], x ∈ v.foot := fun x hx => by simp at hx; subst hx; simp [TV.foot]
  refine ⟨⟨h.blk.ofTy f (to _ (by decide)), hk, h.win.ofTy f (to _ (by decide)), h.clk.ofTy f (to _ (by decide)) (to _ (by decide)), h.os.ofTy f (to _ (by decide)) (to _ (by decide)), own_ofTy h.oy f (to _ (by decide)), ?_, h.dis, h.tab.fr f (fun x hx => h.lohi x (hf x hx)), Nat.le_trans h.hile f.size, h.lohi, h.hd.frL f (to _ (by decide)) (to _ (by decide)) (fun x hx => h.low.2 x (hf x hx)), h.low⟩, fsub f hf⟩
  exact h.ok.frL f (to _ (by decide)) (by obtain ⟨_, ho⟩ := h.ok.own; exact own_nin ho (to _ (by decide)))
theorem Fr.foot {w w' : World} {v : TV} (f : Fr [v.t] w w') : Fr v.foot w w' := fsub f (fun x hx => by simp at hx; subst hx; exact v.t_foot)
theorem TieTo.same {w w' : World} {v : TV} {m : TM} (h : IsTie w' v m) (f : Fr v.foot w w') : TieTo w w' v m := ⟨v, h, rfl, rfl, f, fun x hx => .inl hx⟩

/-- What goes: a row that is pushed, and laid into the connection. -/
theorem IsTie.setOs {w w1 : World} {v : TV} {m : TM} {s' : Sl} {l : List PD} (h : IsTie w v m) (f : Fr v.os.blk w w1) (hr : PRow 0 0 s' l w1) (n : ∀ x ∈ s'.blk, x ∈ v.os.blk ∨ w.heap.size ≤ x) : TieTo w (w1.setCell ⟨v.t, 30, none⟩ (.slice s'.A s'.n s'.c)) v { m with send := l } := by
  obtain ⟨xs, ho⟩ := h.os.own
  have to : ∀ t, 52 ≠ t → TyOut w v.os.blk t := fun t ne => TyOut.own ho ne
  have hf : ∀ x ∈ v.os.blk, x ∈ v.foot := fun x hx => by simp [TV.foot, hx]
  have hn : ∀ x ∈ ({ v with os := s' } : TV).foot, x ∈ v.foot ∨ w.heap.size ≤ x := fun x hx => by
    simp only [TV.foot, List.mem_cons, List.mem_append] at hx ⊢
    rcases hx with hx | hx | hx | hx | hx | hx | hx | hx | hx | hx
    any_goals (left; simp [hx]; done)
    rcases n x hx with h1 | h1
    · left; simp [h1]
    · exact .inr h1
  have hb : Blk w1 v.t (m.cells v) 105 := h.blk.ofTy f (to _ (by decide))
  have f2 : Fr [v.t] w1 (w1.setCell ⟨v.t, 30, none⟩ (.slice s'.A s'.n s'.c)) := (Fr.refl [v.t] w1).setCell _ (.inl (by simp))
  have t2 : ∀ t, 105 ≠ t → TyOut w1 [v.t] t := fun t ne => TyOut.cons hb ne (TyOut.nil _ _)
  have hbk : IsBack w1 v.k v.q v.ql 64 m.out m.q := h.back.ofTy f (to _ (by decide)) (to _ (by decide)) (by obtain ⟨_, ho⟩ := h.back.que.row.own; exact own_nin ho (to _ (by decide))) (to _ (by decide))
  have hok1 : BRow v.ok m.took w1 := h.ok.frL f (to _ (by decide)) (by obtain ⟨_, ho⟩ := h.ok.own; exact own_nin ho (to _ (by decide)))
  have F : Fr v.foot w (w1.setCell ⟨v.t, 30, none⟩ (.slice s'.A s'.n s'.c)) := (fsub f hf).setCell _ (.inl v.t_foot)
  refine ⟨{ v with os := s' }, ⟨Blk.set hb 30 _ rfl, ?_, (h.win.ofTy f (to _ (by decide))).ofTy f2 (t2 _ (by decide)), (h.clk.ofTy f (to _ (by decide)) (to _ (by decide))).ofTy f2 (t2 _ (by decide)) (t2 _ (by decide)), hr.ofTy f2 (t2 _ (by decide)) (t2 _ (by decide)), own_ofTy (own_ofTy h.oy f (to _ (by decide))) f2 (t2 _ (by decide)), ?_, h.dis, h.tab.fr F h.lohi, Nat.le_trans h.hile F.size, ?_, (h.hd.os f (to _ (by decide)) (fun x hx => h.low.2 x (hf x hx)) n).frL f2 (t2 _ (by decide)) (t2 _ (by decide)) (fun x hx => by simp at hx; subst hx; exact h.low.2 _ v.t_foot), ?_⟩, rfl, rfl, F, hn⟩
  · exact hbk.ofTy f2 (t2 _ (by decide)) (t2 _ (by decide)) (by obtain ⟨_, ho⟩ := hbk.que.row.own; exact own_nin ho (t2 _ (by decide))) (t2 _ (by decide))
  · exact hok1.frL f2 (t2 _ (by decide)) (by obtain ⟨_, ho⟩ := hok1.own; exact own_nin ho (t2 _ (by decide)))
  · intro x hx
    rcases hn x hx with h1 | h1
    · exact h.lohi x h1
    · exact .inr (Nat.le_trans h.hile h1)
  · refine ⟨h.low.1, fun x hx => ?_⟩
    rcases hn x hx with h1 | h1
    · exact h.low.2 x h1
    · exact Nat.le_trans h.low.1 (Nat.le_trans h.hile h1)
/-- What is said. -/
theorem IsTie.setOy {w w1 : World} {v : TV} {m : TM} {s' : Sl} {l : List Int} (h : IsTie w v m) (hp : Pushed w w1 3 1 v.oy s' l.length (l.map (Value.int .i64))) : TieTo w (w1.setCell ⟨v.t, 31, none⟩ (.slice s'.A s'.n s'.c)) v { m with say := l } := by
  obtain ⟨hr, f, n⟩ := hp
  have to : ∀ t, 3 ≠ t → TyOut w v.oy.blk t := fun t ne => TyOut.own h.oy ne
  have hf : ∀ x ∈ v.oy.blk, x ∈ v.foot := fun x hx => by simp [TV.foot, hx]
  have hn : ∀ x ∈ ({ v with oy := s' } : TV).foot, x ∈ v.foot ∨ w.heap.size ≤ x := fun x hx => by
    simp only [TV.foot, List.mem_cons, List.mem_append] at hx ⊢
    rcases hx with hx | hx | hx | hx | hx | hx | hx | hx | hx | hx
    any_goals (left; simp [hx]; done)
    rcases n x hx with h1 | h1
    · left; simp [h1]
    · exact .inr h1
  have hb : Blk w1 v.t (m.cells v) 105 := h.blk.ofTy f (to _ (by decide))
  have f2 : Fr [v.t] w1 (w1.setCell ⟨v.t, 31, none⟩ (.slice s'.A s'.n s'.c)) := (Fr.refl [v.t] w1).setCell _ (.inl (by simp))
  have t2 : ∀ t, 105 ≠ t → TyOut w1 [v.t] t := fun t ne => TyOut.cons hb ne (TyOut.nil _ _)
  have hbk : IsBack w1 v.k v.q v.ql 64 m.out m.q := h.back.ofTy f (to _ (by decide)) (to _ (by decide)) (by obtain ⟨_, ho⟩ := h.back.que.row.own; exact own_nin ho (to _ (by decide))) (to _ (by decide))
  have hok1 : BRow v.ok m.took w1 := h.ok.frL f (to _ (by decide)) (by obtain ⟨_, ho⟩ := h.ok.own; exact own_nin ho (to _ (by decide)))
  have hos1 : PRow 0 0 v.os m.send w1 := h.os.ofTy f (to _ (by decide)) (to _ (by decide))
  have F : Fr v.foot w (w1.setCell ⟨v.t, 31, none⟩ (.slice s'.A s'.n s'.c)) := (fsub f hf).setCell _ (.inl v.t_foot)
  refine ⟨{ v with oy := s' }, ⟨Blk.set hb 31 _ rfl, ?_, (h.win.ofTy f (to _ (by decide))).ofTy f2 (t2 _ (by decide)), (h.clk.ofTy f (to _ (by decide)) (to _ (by decide))).ofTy f2 (t2 _ (by decide)) (t2 _ (by decide)), hos1.ofTy f2 (t2 _ (by decide)) (t2 _ (by decide)), own_ofTy hr f2 (t2 _ (by decide)), ?_, h.dis, h.tab.fr F h.lohi, Nat.le_trans h.hile F.size, ?_, (h.hd.frL f (to _ (by decide)) (to _ (by decide)) (fun x hx => h.low.2 x (hf x hx))).frL f2 (t2 _ (by decide)) (t2 _ (by decide)) (fun x hx => by simp at hx; subst hx; exact h.low.2 _ v.t_foot), ?_⟩, rfl, rfl, F, hn⟩
  · exact hbk.ofTy f2 (t2 _ (by decide)) (t2 _ (by decide)) (by obtain ⟨_, ho⟩ := hbk.que.row.own; exact own_nin ho (t2 _ (by decide))) (t2 _ (by decide))
  · exact hok1.frL f2 (t2 _ (by decide)) (by obtain ⟨_, ho⟩ := hok1.own; exact own_nin ho (t2 _ (by decide)))
  · intro x hx
    rcases hn x hx with h1 | h1
    · exact h.lohi x h1
    · exact .inr (Nat.le_trans h.hile h1)
  · refine ⟨h.low.1, fun x hx => ?_⟩
    rcases hn x hx with h1 | h1
    · exact h.low.2 x h1
    · exact Nat.le_trans h.low.1 (Nat.le_trans h.hile h1)

end Go.Proofs.YtneggoonlmmjeaaGreat
namespace Go.Proofs.YtneggoonlmmjeaaGreat
open Go.RowKit
set_option linter.unusedVariables false
set_option linter.unusedSimpArgs false
set_option maxRecDepth 100000

theorem tme (a : Int) : Int.tmod a 128 = if 0 ≤ a then a % 128 else -((-a) % 128) := by
  by_cases h : 0 ≤ a
  · rw [if_pos h, Int.tmod_eq_emod_of_nonneg h]
  · rw [if_neg h, ← Int.neg_neg (Int.tmod a 128), ← Int.neg_tmod, Int.tmod_eq_emod_of_nonneg (by omega)]
theorem tm_lo (a : Int) : -128 < Int.tmod a 128 ∧ Int.tmod a 128 < 128 := by rw [tme a]; omega
theorem tm_wrap (a : Int) : Int.tmod (wrap64 (Int.tmod a 128 + 128)) 128 = a % 128 := by
  have := tm_lo a
  rw [show wrap64 (Int.tmod a 128 + 128) = Int.tmod a 128 + 128 by unfold wrap64; omega]
  rw [tme (Int.tmod a 128 + 128), tme a]; omega
theorem tm_plain (a : Int) : Int.tmod (Int.tmod a 128 + 128) 128 = a % 128 := by
  have := tm_lo a
  rw [tme (Int.tmod a 128 + 128), tme a]; omega

theorem ret_int {k : IntKind} {a b : Int} (h : a = b) : Ending.returned (.int k a) = .returned (.int k b) := by rw [h]
theorem ret_bool {a b : Bool} (h : a = b) : Ending.returned (.bool a) = .returned (.bool b) := by rw [h]

theorem seq_rest (a : Int) (w : World) :
    Calls Tryz.prog 217 #[.int .i64 a] w fun e w' => e = .returned (.int .i64 (a % 128)) ∧ w = w' := by
  go_enter Tryz.func217, Tryz.ntmps217
  go_wp2
  go_ret
  exact ⟨ret_int (by rw [tm_wrap]), rfl⟩

theorem seq_fold (b : Nat) (x y : Int) (w : World) (h0 : w.cell? ⟨b, 0, none⟩ = some (.int .i64 x)) (h1 : w.cell? ⟨b, 1, none⟩ = some (.int .i64 y)) :
    Calls Tryz.prog 216 #[.slice (some ⟨b, 0, none⟩) 2 2] w fun e w' => e = .returned (.int .i64 ((x + y) % 128)) ∧ w = w' := by
  go_enter Tryz.func216, Tryz.ntmps216
  go_wp2
  refine wp_loop_rounds 3 ?_
  rw [rounds_succ]
  go_wp2_with (go_at_call 217; refine (seq_rest _ _).mono ?_; rintro e w' ⟨rfl, rfl⟩)
  rw [rounds_succ]
  go_wp2_with (go_at_call 217; refine (seq_rest _ _).mono ?_; rintro e w' ⟨rfl, rfl⟩)
  rw [rounds_succ]
  go_wp2
  go_ret
  exact ⟨ret_int (by omega), rfl⟩

theorem two_cells (w : World) (x y : Value) (t : TypeId) : (w.alloc (.cells #[x, y] t)).cell? ⟨w.heap.size, 0, none⟩ = some x ∧ (w.alloc (.cells #[x, y] t)).cell? ⟨w.heap.size, 1, none⟩ = some y :=
  ⟨(Blk.new w #[x, y] t).cell 0 rfl, (Blk.new w #[x, y] t).cell 1 rfl⟩

theorem seq_Add (a n : Int) (w : World) :
    Calls Tryz.prog 243 #[.int .i64 a, .int .i64 n] w fun e w' => e = .returned (.int .i64 ((a + n) % 128)) ∧ Fr [] w w' := by
  have hc := two_cells w (.int .i64 a) (.int .i64 n) 3
  go_enter Tryz.func243, Tryz.ntmps243
  go_wp2_with (go_at_call 216; refine (seq_fold _ _ _ _ hc.1 hc.2).mono ?_; rintro e w' ⟨rfl, rfl⟩)
  go_ret
  exact ⟨rfl, (Fr.refl _ _).alloc _⟩

theorem seq_Dist (a b : Int) (w : World) :
    Calls Tryz.prog 169 #[.int .i64 a, .int .i64 b] w fun e w' => e = .returned (.int .i64 ((b - a) % 128)) ∧ Fr [] w w' := by
  have hc := two_cells w (.int .i64 b) (.int .i64 (-(a % 128))) 3
  have hl : 0 ≤ a % 128 := by omega
  have hh : a % 128 < 128 := by omega
  go_enter Tryz.func169, Tryz.ntmps169
  go_wp2_with (first | (go_at_call 217; refine (seq_rest _ _).mono ?_; rintro e w' ⟨rfl, rfl⟩) | (go_at_call 216; refine (seq_fold _ _ _ _ hc.1 hc.2).mono ?_; rintro e w' ⟨rfl, rfl⟩))
  go_ret
  exact ⟨ret_int (by omega), (Fr.refl _ _).alloc _⟩

theorem seq_In (x a b : Int) (w : World) :
    Calls Tryz.prog 168 #[.int .i64 x, .int .i64 a, .int .i64 b] w fun e w' => e = .returned (.bool (decide ((x - a) % 128 ≤ (b - a) % 128))) ∧ Fr [] w w' := by
  go_enter Tryz.func168, Tryz.ntmps168
  go_wp2_with fail
  refine (seq_Dist _ _ _).mono ?_; rintro e w1 ⟨rfl, f1⟩
  go_wp2_with fail
  refine (seq_Dist _ _ _).mono ?_; rintro e w2 ⟨rfl, f2⟩
  go_wp2
  go_ret
  exact ⟨rfl, f1.trans f2 (by simp)⟩

end Go.Proofs.YtneggoonlmmjeaaGreat
namespace Go.Proofs.YtneggoonlmmjeaaGreat
open Go.RowKit Go.Shelf
set_option linter.unusedVariables false
set_option linter.unusedSimpArgs false
set_option maxRecDepth 100000

def v3 (cs : Array Value) (s r a : Int) : Array Value := ((cs.setIfInBounds 10 (.int .i64 s)).setIfInBounds 11 (.int .i64 r)).setIfInBounds 12 (.int .i64 a)
def IsV (w : World) (b : Nat) (cs : Array Value) (s r a : Int) : Prop := 12 < cs.size ∧ Blk w b (v3 cs s r a) 105
theorem IsV.c0 {w : World} {b : Nat} {cs : Array Value} {s r a : Int} (h : IsV w b cs s r a) : w.cell? ⟨b, 10, none⟩ = some (.int .i64 s) := Blk.cell h.2 10 (by have := h.1; simp [v3, Array.getElem?_setIfInBounds]; omega)
theorem IsV.c1 {w : World} {b : Nat} {cs : Array Value} {s r a : Int} (h : IsV w b cs s r a) : w.cell? ⟨b, 11, none⟩ = some (.int .i64 r) := Blk.cell h.2 11 (by have := h.1; simp [v3, Array.getElem?_setIfInBounds]; omega)
theorem IsV.c2 {w : World} {b : Nat} {cs : Array Value} {s r a : Int} (h : IsV w b cs s r a) : w.cell? ⟨b, 12, none⟩ = some (.int .i64 a) := Blk.cell h.2 12 (by have := h.1; simp [v3, Array.getElem?_setIfInBounds]; omega)
theorem IsV.f {w : World} {b : Nat} {cs : Array Value} {s r a : Int} (h : IsV w b cs s r a) (i : Nat) : w.frozen? ⟨b, i, none⟩ = false := Blk.free h.2 i
theorem IsV.fr {w w' : World} {b : Nat} {cs : Array Value} {s r a : Int} (h : IsV w b cs s r a) {L : List Nat} (k : Fr L w w') (hn : b ∉ L) : IsV w' b cs s r a := ⟨h.1, Blk.fr h.2 k hn⟩
theorem IsV.al {w : World} {b : Nat} {cs : Array Value} {s r a : Int} (h : IsV w b cs s r a) (o : Obj) : IsV (w.alloc o) b cs s r a := ⟨h.1, Blk.alloc h.2 o⟩
theorem IsV.s0 {w : World} {b : Nat} {cs : Array Value} {s r a : Int} (h : IsV w b cs s r a) (x : Int) : IsV (w.setCell ⟨b, 10, none⟩ (.int .i64 x)) b cs x r a := ⟨h.1, Blk.set h.2 10 _ (by unfold v3; apply Array.ext_getElem?; intro i; simp only [Array.getElem?_setIfInBounds, Array.size_setIfInBounds]; by_cases e0 : 10 = i <;> by_cases e1 : 11 = i <;> by_cases e2 : 12 = i <;> simp_all <;> omega)⟩
theorem IsV.s1 {w : World} {b : Nat} {cs : Array Value} {s r a : Int} (h : IsV w b cs s r a) (x : Int) : IsV (w.setCell ⟨b, 11, none⟩ (.int .i64 x)) b cs s x a := ⟨h.1, Blk.set h.2 11 _ (by unfold v3; apply Array.ext_getElem?; intro i; simp only [Array.getElem?_setIfInBounds, Array.size_setIfInBounds]; by_cases e0 : 10 = i <;> by_cases e1 : 11 = i <;> by_cases e2 : 12 = i <;> simp_all <;> omega)⟩
theorem IsV.s2 {w : World} {b : Nat} {cs : Array Value} {s r a : Int} (h : IsV w b cs s r a) (x : Int) : IsV (w.setCell ⟨b, 12, none⟩ (.int .i64 x)) b cs s r x := ⟨h.1, Blk.set h.2 12 _ (by unfold v3; apply Array.ext_getElem?; intro i; simp only [Array.getElem?_setIfInBounds, Array.size_setIfInBounds]; by_cases e0 : 10 = i <;> by_cases e1 : 11 = i <;> by_cases e2 : 12 = i <;> simp_all <;> omega)⟩
theorem fld0 (x y z : Value) (w : World) : (Instr.field 100 (.agg #[x, y, z]) 0).run Tryz.prog w = .ok x w := by kernel_rfl
theorem fld1 (x y z : Value) (w : World) : (Instr.field 100 (.agg #[x, y, z]) 1).run Tryz.prog w = .ok y w := by kernel_rfl
theorem fld2 (x y z : Value) (w : World) : (Instr.field 100 (.agg #[x, y, z]) 2).run Tryz.prog w = .ok z w := by kernel_rfl
attribute [local go_sem] fld0 fld1 fld2

theorem vars_all (b : Nat) (cs : Array Value) (s r a : Int) (w : World) (h : IsV w b cs s r a) :
    Calls Tryz.prog 103 #[.pointer (some ⟨b, 10, none⟩)] w fun e w' => e = .returned (.agg #[.int .i64 s, .int .i64 r, .int .i64 a]) ∧ Fr [] w w' := by
  have hA := h.al (.cells #[.int .i64 0, .int .i64 0, .int .i64 0] 100)
  have c0 := hA.c0
  have c1 := hA.c1
  have c2 := hA.c2
  clear hA
  go_enter Tryz.func103, Tryz.ntmps103
  go_wp2
  exact bodyPost_ret (v := .agg #[.int .i64 s, .int .i64 r, .int .i64 a]) (by simp [results, Tryz.results103, go_sem]) rfl ⟨rfl, (Fr.refl _ _).alloc _⟩

theorem vars_Vs (b : Nat) (cs : Array Value) (s r a : Int) (w : World) (h : IsV w b cs s r a) :
    Calls Tryz.prog 62 #[.pointer (some ⟨b, 10, none⟩)] w fun e w' => e = .returned (.int .i64 s) ∧ Fr [] w w' := by
  go_enter Tryz.func62, Tryz.ntmps62
  go_wp2_with fail
  refine (vars_all _ _ _ _ _ _ h).mono ?_; rintro e w1 ⟨rfl, f1⟩
  go_wp2
  go_ret
  exact ⟨rfl, f1⟩

theorem vars_Vr (b : Nat) (cs : Array Value) (s r a : Int) (w : World) (h : IsV w b cs s r a) :
    Calls Tryz.prog 60 #[.pointer (some ⟨b, 10, none⟩)] w fun e w' => e = .returned (.int .i64 r) ∧ Fr [] w w' := by
  go_enter Tryz.func60, Tryz.ntmps60
  go_wp2_with fail
  refine (vars_all _ _ _ _ _ _ h).mono ?_; rintro e w1 ⟨rfl, f1⟩
  go_wp2
  go_ret
  exact ⟨rfl, f1⟩

theorem vars_Va (b : Nat) (cs : Array Value) (s r a : Int) (w : World) (h : IsV w b cs s r a) :
    Calls Tryz.prog 61 #[.pointer (some ⟨b, 10, none⟩)] w fun e w' => e = .returned (.int .i64 a) ∧ Fr [] w w' := by
  go_enter Tryz.func61, Tryz.ntmps61
  go_wp2_with fail
  refine (vars_all _ _ _ _ _ _ h).mono ?_; rintro e w1 ⟨rfl, f1⟩
  go_wp2
  go_ret
  exact ⟨rfl, f1⟩

theorem vars_Out (b : Nat) (cs : Array Value) (s r a : Int) (w : World) (h : IsV w b cs s r a) :
    Calls Tryz.prog 206 #[.pointer (some ⟨b, 10, none⟩)] w fun e w' => e = .returned (.int .i64 ((s - a) % 128)) ∧ Fr [] w w' := by
  go_enter Tryz.func206, Tryz.ntmps206
  go_wp2_with fail
  refine (vars_Va _ _ _ _ _ _ h).mono ?_; rintro e w1 ⟨rfl, f1⟩
  go_wp2_with fail
  refine (vars_Vs _ _ _ _ _ _ (h.fr f1 (by simp))).mono ?_; rintro e w2 ⟨rfl, f2⟩
  go_wp2_with fail
  refine (seq_Dist _ _ _).mono ?_; rintro e w3 ⟨rfl, f3⟩
  go_wp2
  go_ret
  exact ⟨rfl, (f1.tr f2).tr f3⟩

theorem vars_up (b i : Nat) (x : Int) (v : Value) (w : World) (hc : w.cell? ⟨b, i, none⟩ = some (.int .i64 x)) (hf : w.frozen? ⟨b, i, none⟩ = false) :
    Calls Tryz.prog 233 #[v, .pointer (some ⟨b, i, none⟩)] w fun e w' => e = .returned (.int .i64 x) ∧ ∃ w1, Fr [] w w1 ∧ w' = w1.setCell ⟨b, i, none⟩ (.int .i64 ((x + 1) % 128)) := by
  have hlt : b < w.heap.size := World.block_lt_of_cell? w _ hc
  go_enter Tryz.func233, Tryz.ntmps233
  go_wp2_with fail
  refine (seq_Add _ _ _).mono ?_; rintro e w1 ⟨rfl, f1⟩
  have hc1 := f1.cell hc (by simp)
  have hf1 : w1.frozen? ⟨b, i, none⟩ = false := by rw [World.frozen?_of_block (w := w) (f1.block b hlt (by simp))]; exact hf
  go_wp2
  go_ret
  exact ⟨rfl, w1, f1, rfl⟩

theorem vars_Sent (b : Nat) (cs : Array Value) (s r a : Int) (w : World) (h : IsV w b cs s r a) :
    Calls Tryz.prog 213 #[.pointer (some ⟨b, 10, none⟩)] w fun e w' =>
      e = .returned (.int .i64 (if (s - a) % 128 = 127 then -1 else s)) ∧ IsV w' b cs (if (s - a) % 128 = 127 then s else (s + 1) % 128) r a ∧ Fr [b] w w' := by
  by_cases hd : (s - a) % 128 = 127
  · rw [if_pos hd, if_pos hd]
    have hd' : 127 ≤ (s - a) % 128 := by omega
    clear hd
    go_enter Tryz.func213, Tryz.ntmps213
    go_wp2_with fail
    refine (vars_Out _ _ _ _ _ _ h).mono ?_; rintro e w1 ⟨rfl, f1⟩
    go_wp2
    go_ret
    exact ⟨rfl, h.fr f1 (by simp), f1.to1 _⟩
  · rw [if_neg hd, if_neg hd]
    have hd' : (s - a) % 128 < 127 := by omega
    clear hd
    go_enter Tryz.func213, Tryz.ntmps213
    go_wp2_with fail
    refine (vars_Out _ _ _ _ _ _ h).mono ?_; rintro e w1 ⟨rfl, f1⟩
    have h1 := h.fr f1 (by simp)
    go_wp2_with fail
    refine (vars_up _ _ _ _ _ h1.c0 (h1.f 10)).mono ?_; rintro e w2 ⟨rfl, w3, f3, rfl⟩
    go_wp2
    go_ret
    exact ⟨rfl, (h1.fr f3 (by simp)).s0 _, ((f1.tr f3).to1 b).set1 _ _⟩

theorem vars_Took (b : Nat) (cs : Array Value) (s r a : Int) (w : World) (h : IsV w b cs s r a) :
    Calls Tryz.prog 202 #[.pointer (some ⟨b, 10, none⟩)] w fun e w' =>
      e = .returned (.int .i64 r) ∧ IsV w' b cs s ((r + 1) % 128) a ∧ Fr [b] w w' := by
  go_enter Tryz.func202, Tryz.ntmps202
  go_wp2_with fail
  refine (vars_up _ _ _ _ _ h.c1 (h.f 11)).mono ?_; rintro e w2 ⟨rfl, w3, f3, rfl⟩
  go_wp2
  go_ret
  exact ⟨rfl, (h.fr f3 (by simp)).s1 _, (f3.to1 b).set1 _ _⟩

theorem vars_Clear (b : Nat) (cs : Array Value) (s r a : Int) (w : World) (h : IsV w b cs s r a) :
    Calls Tryz.prog 194 #[.pointer (some ⟨b, 10, none⟩)] w fun e w' =>
      e = .returned (.tuple #[]) ∧ IsV w' b cs 0 0 0 ∧ Fr [b] w w' := by
  have c0 := h.c0
  have c1 := h.c1
  have c2 := h.c2
  have f0 := h.f 10
  have f1 := h.f 11
  have f2 := h.f 12
  go_enter Tryz.func194, Tryz.ntmps194
  go_wp2
  go_end0
  exact ⟨rfl, ((h.s0 _).s1 _).s2 _, (((Fr.refl _ _).set1 _ _).set1 _ _).set1 _ _⟩

theorem vars_Back (b : Nat) (cs : Array Value) (s r a : Int) (w : World) (h : IsV w b cs s r a) :
    Calls Tryz.prog 208 #[.pointer (some ⟨b, 10, none⟩)] w fun e w' =>
      e = .returned (.int .i64 ((s - a) % 128)) ∧ IsV w' b cs a r a ∧ Fr [b] w w' := by
  go_enter Tryz.func208, Tryz.ntmps208
  go_wp2_with fail
  refine (vars_Out _ _ _ _ _ _ h).mono ?_; rintro e w1 ⟨rfl, f1⟩
  have h1 := h.fr f1 (by simp)
  have c0 := h1.c0
  have c2 := h1.c2
  have f0 := h1.f 10
  go_wp2
  go_ret
  exact ⟨rfl, h1.s0 _, (f1.to1 b).set1 _ _⟩

theorem IsTie.v3 {w : World} {v : TV} {m : TM} (h : IsTie w v m) : IsV w v.t (m.cells v) m.vs m.vr m.va := ⟨by simp [TM.cells], h.blk⟩
theorem win_Now (b : Nat) (m d c : Int) (w : World) (h : Blk w b #[.int .i64 m, .int .i64 d, .int .i64 c] 139) :
    Calls Tryz.prog 81 #[.pointer (some ⟨b, 0, none⟩)] w fun e w' => e = .returned (.int .i64 d) ∧ w = w' := by
  have h1 := h.cell 1 rfl
  simp only [List.getElem_toArray, List.getElem_cons_zero, List.getElem_cons_succ] at h1
  go_enter Tryz.func81, Tryz.ntmps81
  go_wp2
  go_ret
  exact ⟨rfl, rfl⟩
theorem win_Fresh (b : Nat) (m d c : Int) (w : World) (h : Blk w b #[.int .i64 m, .int .i64 d, .int .i64 c] 139) :
    Calls Tryz.prog 196 #[.pointer (some ⟨b, 0, none⟩)] w fun e w' => e = .returned (.tuple #[]) ∧ Blk w' b #[.int .i64 m, .int .i64 m, .int .i64 0] 139 ∧ Fr [b] w w' := by
  have h0 := h.cell 0 rfl
  have h1 := h.cell 1 rfl
  have h2 := h.cell 2 rfl
  simp only [List.getElem_toArray, List.getElem_cons_zero, List.getElem_cons_succ] at h0 h1 h2
  have f1 := h.free 1
  have f2 := h.free 2
  have HB : Hid (Blk w b #[.int .i64 m, .int .i64 d, .int .i64 c] 139) := Lib.hid h
  clear h
  go_enter Tryz.func196, Tryz.ntmps196
  go_wp2
  go_end0
  exact ⟨rfl, Blk.set (Blk.set HB.out 1 _ rfl) 2 _ rfl, ((Fr.refl _ _).set1 _ _).set1 _ _⟩
theorem win_Slow (b : Nat) (m d c : Int) (w : World) (h : Blk w b #[.int .i64 m, .int .i64 d, .int .i64 c] 139) (hm : 1 ≤ m) :
    Calls Tryz.prog 163 #[.pointer (some ⟨b, 0, none⟩)] w fun e w' => e = .returned (.tuple #[]) ∧ Blk w' b #[.int .i64 m, .int .i64 1, .int .i64 0] 139 ∧ Fr [b] w w' := by
  have h0 := h.cell 0 rfl
  have h1 := h.cell 1 rfl
  have h2 := h.cell 2 rfl
  simp only [List.getElem_toArray, List.getElem_cons_zero, List.getElem_cons_succ] at h0 h1 h2
  have f1 := h.free 1
  have f2 := h.free 2
  have HB : Hid (Blk w b #[.int .i64 m, .int .i64 d, .int .i64 c] 139) := Lib.hid h
  have hmin : min 1 m = 1 := by omega
  clear h
  go_enter Tryz.func163, Tryz.ntmps163
  go_wp2
  go_end0
  exact ⟨rfl, Blk.set (Blk.set HB.out 1 _ rfl) 2 _ rfl, ((Fr.refl _ _).set1 _ _).set1 _ _⟩


end Go.Proofs.YtneggoonlmmjeaaGreat
namespace Go.Proofs.YtneggoonlmmjeaaGreat
open Go.RowKit
set_option linter.unusedVariables false
set_option linter.unusedSimpArgs false
set_option maxRecDepth 100000

def holdsB (V : Nat → World → Value → Prop) (w : World) (a : Act) (l : List Oper) : List Nat → Prop
  | [] => True
  | i :: r => (match (l[i]?).bind (·.dst) with | some d => V i w (a.tmps.getD d undef) | none => ∃ v, V i w v) ∧ holdsB V w a l r

theorem holdsB_ofT {V : Nat → World → Value → Prop} {w : World} {x : Nat → Value} {l zs : List Oper} {t : Array Value} {df : List Deferred} (hA : apartB l = true) (hsz : (l.all fun o => match o.dst with | some d => decide (d < t.size) | none => true) = true) :
    ∀ {m : List Nat}, (∀ i ∈ m, i < l.length) → holds V w x m → holdsB V w { tmps := fill l 0 x t, defers := df } (l ++ zs) m
  | [], _, _ => trivial
  | i :: r, hm, h => by
    refine ⟨?_, holdsB_ofT hA hsz (fun j hj => hm j (by simp [hj])) h.2⟩
    have hil := hm i (by simp)
    rw [List.getElem?_append_left hil]
    cases ho : l[i]? with
    | none => rw [List.getElem?_eq_getElem hil] at ho; cases ho
    | some o =>
      cases hd : o.dst with
      | none => simp only [Option.bind_some, hd]; exact ⟨_, h.1⟩
      | some d =>
        simp only [Option.bind_some, hd]
        have hs : d < t.size := by
          simp only [List.all_eq_true] at hsz
          have := hsz o (List.mem_of_getElem? ho)
          rw [hd] at this
          simpa using this
        have := fill_at l 0 x t i o d ho hd (fun i' o' h1 h2 => apart_of hA ho h1 hd h2) hs
        rw [Array.getD_eq_getD_getElem?, this]
        simpa using h.1
def parStepsBG (F : World → World → Prop) (St : Nat → World → World → Prop) (ea : Nat → Bool) (Bs : World → Prop) (P : Program) (md : Region.Mode) (l : List Oper) (Q : Exit → Act → World → Prop) (V : Nat → World → Value → Prop) (t : Array Value) (w : World) : List Oper → Nat → Prop
  | [], _ => True
  | o :: r, i => (∀ (a : Act) (w' : World), F w w' → (ea i = true → Bs w') → (∀ k, (l.all fun o => o.dst != some k) = true → a.tmps.getD k undef = t.getD k undef) → holdsB V w' a l (waits md o) → ∀ K : Act → World → Prop, Shut (∀ v w'', St i w' w'' → V i w'' v → K (a.put o.dst v) w'') →
      if Region.wanted o (yielded l.toArray a.tmps) = true then o.wp P a w' K Q else K (a.put o.dst undef) w') ∧
    parStepsBG F St ea Bs P md l Q V t w r (i + 1)
theorem parStepsBG_of {F : World → World → Prop} {St : Nat → World → World → Prop} {ea : Nat → Bool} {Bs : World → Prop} {P : Program} {md : Region.Mode} {l zs : List Oper} {Q : Exit → Act → World → Prop} {V : Nat → World → Value → Prop} {t : Array Value} {df : List Deferred} {w : World} (hA : apartB l = true) (hT : topoB md (l ++ zs) = true) (hsz : (l.all fun o => match o.dst with | some d => decide (d < t.size) | none => true) = true) :
    ∀ {r : List Oper} {k : Nat}, l.drop k = r → parStepsBG F St ea Bs P md (l ++ zs) Q V t w r k → parStepsG F St ea Bs P md (l ++ zs) l Q V t df w r k
  | [], _, _, _ => trivial
  | o :: r, k, hr, h => by
    have hk : l[k]? = some o := by
      have : (l.drop k)[0]? = some o := by rw [hr]; rfl
      simpa using this
    have hkl : k < l.length := (List.getElem?_eq_some_iff.1 hk).1
    refine ⟨fun x w' hf hb hp K hK => h.1 _ w' hf hb (fun j hj => by
      rw [Array.getD_eq_getD_getElem?, Array.getD_eq_getD_getElem?, fill_keep l 0 x t j (fun i o' ho' he => by
        simp only [List.all_eq_true, bne_iff_ne, ne_eq] at hj
        exact hj o' (List.mem_append_left _ (List.mem_of_getElem? ho')) he)]) (holdsB_ofT hA hsz (fun i hi => ?_) hp) K hK, parStepsBG_of hA hT hsz (by rw [← List.drop_drop, hr]; rfl) h.2⟩
    simp only [topoB, List.all_eq_true, List.mem_range] at hT
    have g1 := hT k (by simp; omega)
    rw [List.getElem?_append_left hkl, hk] at g1
    simp only [List.all_eq_true, decide_eq_true_eq] at g1
    have := g1 i hi
    omega
theorem wp_region_keepsGB {P : Program} {id : Nat} {Q : Exit → Act → World → Prop} {t : Array Value} {df : List Deferred} {w : World} {all : List Oper} (F : World → World → Prop) (St : Nat → World → World → Prop) (bad : Nat → Bool) (Bs : World → Prop) (dead : Nat → Nat → Bool) (V : Nat → World → Value → Prop) (n : Nat) (hn : decide (n ≤ all.length) = true) (hm : P.follows .mixedOrders = true)
    (hA : apartB (all.take n) = true) (hT : topoB .any all = true) (hsz : ((all.take n).all fun o => match o.dst with | some d => decide (d < t.size) | none => true) = true) (hW : tailB .any all n = true)
    (hF0 : F w { w with drawn := w.drawn + 1 }) (hF : ∀ i w' w'', i < n → F w w' → St i w' w'' → F w w'') (hV : ∀ i j w' w'' v, i < n → j < n → i ≠ j → dead i j = false → beforeB .any all i j = false → (∀ c, c < n → dead i c = true → beforeB .any all j c = false) → F w w' → St j w' w'' → V i w' v → V i w'' v) (hDead : deadB .any all n dead = true) (hB : ∀ i w' w'', i < n → bad i = false → F w w' → St i w' w'' → Bs w' → Bs w'') (hB0 : Bs { w with drawn := w.drawn + 1 }) (hS : parStepsBG F St (earlyB .any all n bad) Bs P .any all Q V t w (all.take n) 0)
    (hD : ∀ x w', F w w' → holds V w' x (live n dead) → wpList P all.toArray Q (all.drop n) { tmps := fill (all.take n) 0 x t, defers := df } w') :
    (Code.region id all.toArray true).wp P Q { tmps := t, defers := df } w := by
  have e : all = all.take n ++ all.drop n := (List.take_append_drop n all).symm
  have hl : (all.take n).length = n := by simp at hn ⊢; omega
  refine wp_region_any hm ?_
  generalize hlz : all.take n = l at *
  generalize all.drop n = zs at *
  subst e
  subst hl
  have hS' := parStepsBG_of (df := df) hA hT hsz (k := 0) (by simp) hS
  have h := wpAny_parG (V := V) hA hT hW hF hV hDead hB hS' hD (l ++ zs).toArray.size (Array.replicate (l ++ zs).toArray.size false) (fun i => ((l[i]?).bind (·.dst)).elim undef fun d => t.getD d undef) { w with drawn := w.drawn + 1 } (by simp) (fun i _ hi => by simp at hi; simp [Array.getElem?_replicate, hi]) (fun j o _ hj => by rw [Array.getElem?_replicate] at hj; split at hj <;> cases hj)
    (by simp) hF0 (fun i _ hi => by rw [Array.getElem?_replicate] at hi; split at hi <;> cases hi) (fun _ => hB0)
  rw [fill_id] at h
  · exact h
  · intro i o d ho hd
    rw [Nat.zero_add, ho]
    simp [hd]
theorem wp_region_keepsB {P : Program} {id : Nat} {Q : Exit → Act → World → Prop} {t : Array Value} {df : List Deferred} {w : World} {all : List Oper} (L : List Nat) (mt : List Bool) (frag : List (Option Nat)) (Bs : World → Prop) (Vs : List (World → Value → Prop)) (n : Nat) (hn : decide (n ≤ all.length) = true) (hm : P.follows .mixedOrders = true)
    (hA : apartB (all.take n) = true) (hT : topoB .any all = true) (hsz : ((all.take n).all fun o => match o.dst with | some d => decide (d < t.size) | none => true) = true) (hW : tailB .any all n = true)
    (hfr : fragB all n mt frag = true) (hDead : deadB .any all n (deadC frag) = true) (hV : KeepsC w.heap.size L frag Vs) (hB : ∀ w w', Fr [] w w' → Bs w → Bs w') (hB0 : Bs w)
    (hS : parStepsBG (Fr L) (fun i => stC w.heap.size L (mt.getD i false)) (earlyB .any all n fun k => mt.getD k false) Bs P .any all Q (Go.Proofs.YtneggoonlmmjeaaGreat.nth Vs) t w (all.take n) 0)
    (hD : ∀ x w', Fr L w w' → holds (Go.Proofs.YtneggoonlmmjeaaGreat.nth Vs) w' x (live n (deadC frag)) → wpList P all.toArray Q (all.drop n) { tmps := fill (all.take n) 0 x t, defers := df } w') :
    (Code.region id all.toArray true).wp P Q { tmps := t, defers := df } w := by
  refine wp_region_keepsGB (Fr L) (fun i => stC w.heap.size L (mt.getD i false)) (fun k => mt.getD k false) Bs (deadC frag) (Go.Proofs.YtneggoonlmmjeaaGreat.nth Vs) n hn hm hA hT hsz hW ((Fr.refl L w).drewN 1) ?_ ?_ hDead (fun i w' w'' _ hb _ hs h => by rw [hb] at hs; exact hB _ _ hs h) (hB _ _ ((Fr.refl [] w).drewN 1) hB0) hS hD
  · intro i w' w'' hi hf hs
    cases hmu : mt.getD i false with
    | false => rw [hmu] at hs; exact hf.trans hs (fun _ hx => by cases hx)
    | true => rw [hmu] at hs; obtain ⟨M, h1, h2⟩ := hs; exact hf.trans h1 h2
  · intro i j w' w'' v hi hj hij hd hb hnc hf hs hv
    have hk := hV.nth i
    cases hfi : frag.getD i none with
    | none =>
      rw [hfi, if_pos rfl] at hk
      cases hmu : mt.getD j false with
      | false => rw [hmu] at hs; exact hk [] _ _ _ (fun _ hx => by cases hx) hs hv
      | true => rw [hmu] at hs; obtain ⟨M, h1, h2⟩ := hs; exact hk M _ _ _ h2 h1 hv
    | some c =>
      rw [hfi, if_neg (by simp)] at hk
      cases hmu : mt.getD j false with
      | false => rw [hmu] at hs; exact hk _ _ _ hs hv
      | true =>
        exfalso
        simp only [fragB, List.all_eq_true, List.mem_range] at hfr
        have h1 := hfr i hi
        rw [hfi] at h1
        simp only [List.all_eq_true, List.mem_range, Bool.or_eq_true, Bool.not_eq_true', beq_iff_eq, Bool.and_eq_true, decide_eq_true_eq] at h1
        have h2 := h1 j hj
        rw [hmu, hb] at h2
        simp only [deadC, hfi] at hd
        rcases h2 with (((h2 | h2) | h2) | h2) | h2
        · cases h2
        · exact hij h2.symm
        · subst h2; simp at hd
        · cases h2
        · rw [hnc c h2.1 (by unfold deadC; rw [hfi]; simp)] at h2
          cases h2.2

end Go.Proofs.YtneggoonlmmjeaaGreat
namespace Go.Proofs.YtneggoonlmmjeaaGreat
open Go.RowKit Go.Shelf
set_option linter.unusedVariables false
set_option linter.unusedSimpArgs false
set_option maxRecDepth 100000

theorem IsTie.len {w : World} {v : TV} {m : TM} (h : IsTie w v m) : v.os.n = m.send.length ∧ v.oy.n = m.say.length ∧ v.ok.n = m.took.length := ⟨RowG.n h.os, own_n h.oy, RowG.n h.ok⟩
theorem pdu_info : ∃ i0 : TypeInfo, Tryz.prog.info? 52 = some i0 ∧ i0.zero = some (.agg #[.int .i64 0, .int .i64 0, .bool false, .int .i64 0, .int .i64 0, .int .i64 0, .int .i64 0, .bool false, .slice none 0 0]) ∧ i0.size = 9 ∧ i0.bytes = 88 :=
  info_parts (show (Tryz.prog.info? 52).map (fun i => (i.zero, i.size, i.bytes)) = some (some (.agg #[.int .i64 0, .int .i64 0, .bool false, .int .i64 0, .int .i64 0, .int .i64 0, .int .i64 0, .bool false, .slice none 0 0]), 9, 88) by kernel_rfl)

theorem IsTie.pcell {w : World} {v : TV} {m : TM} (h : IsTie w v m) {x : Nat} (e : v.pp = .pointer (some ⟨x, 0, none⟩)) : ∃ cs, Blk w x cs 52 := by
  have hd := h.hd
  cases hp : m.p with
  | none => rw [hp] at hd; have hd' : v.pp = .pointer none := hd; rw [e] at hd'; cases hd'
  | some d =>
    rw [hp] at hd
    obtain ⟨b, s, e', hb, _⟩ := hd
    rw [e] at e'
    cases e'
    exact ⟨_, hb⟩
theorem IsTie.young {w : World} {v : TV} {m : TM} (h : IsTie w v m) {x : Nat} (hx : w.heap.size ≤ x) : v.pp ≠ .pointer (some ⟨x, 0, none⟩) := fun e => by
  obtain ⟨cs, hb⟩ := h.pcell e
  have := hb.lt
  omega
/-- Behind a change of blocks that are no part of it. -/
theorem IsTie.frL {w w' : World} {v : TV} {m : TM} {L : List Nat} (h : IsTie w v m) (f : Fr L w w') (h1 : ∀ x ∈ L, x ∉ v.foot) (h2 : ∀ x ∈ L, v.hi ≤ x) (hU : TyOut w L 5) (hP : ∀ x ∈ L, v.pp ≠ .pointer (some ⟨x, 0, none⟩)) : IsTie w' v m := by
  have nin : ∀ x, x ∈ v.foot → x ∉ L := fun x hx hm => h1 x hm hx
  refine ⟨h.blk.fr f (nin _ (by simp [TV.foot])), h.back.fr f (fun x hx => nin x (by simp only [TV.foot, List.mem_cons, List.mem_append] at hx ⊢; rcases hx with hx | hx | hx <;> simp [hx])) hU, h.win.fr f (nin _ (by simp [TV.foot])), h.clk.fr f (fun x hx => nin x (by simp only [TV.foot, List.mem_cons, List.mem_append] at hx ⊢; rcases hx with hx | hx <;> simp [hx])),
    PRow.frL h.os f (fun x hx => ⟨Nat.zero_le _, hU x hx⟩) (fun x hx => nin x (by simp [TV.foot, hx])), ?_, h.ok.frL f hU (fun x hx => nin x (by simp [TV.foot, hx])), h.dis, h.tab.fr f (fun x hx => .inr (h2 x hx)), Nat.le_trans h.hile f.size, h.lohi, ?_, h.low⟩
  rotate_left
  · have hd := h.hd
    cases hp : m.p with
    | none => rw [hp] at hd; exact hd
    | some d =>
      rw [hp] at hd
      obtain ⟨b, s, e, hb, hs, ho⟩ := hd
      exact ⟨b, s, e, hb.fr f (fun hm => hP b hm e), hs.frL f (fun x hx => ⟨Nat.le_trans h.low.1 (h2 x hx), hU x hx⟩), ho⟩
  exact ⟨h.oy.1, h.oy.2.imp id fun ⟨g, cap, cur, e, hg, hb, q⟩ => ⟨g, cap, cur, e, hg, f.keeps hb (nin g (by have := blk_mem e; simp [TV.foot, this])), q⟩⟩

/-- A PDU goes. -/
def sendM (m : TM) (d : PD) : TM := { m with send := m.send ++ [{ d with to := m.there, fr := m.near }] }
set_option maxHeartbeats 2000000 in
theorem tie_send (w : World) (v : TV) (m : TM) (d : PD) (sp : Sl) (h : IsTie w v m) (hb : Bts 0 w sp d.info) (hs : m.send.length ≤ 100000) :
    Calls Tryz.prog 188 #[.pointer (some ⟨v.t, 0, none⟩), d.val sp] w fun e w' => e = .returned (.tuple #[]) ∧ TieTo w w' v (sendM m d) := by
  obtain ⟨i0, hi0, hz0, hz1, hz2⟩ := pdu_info
  have hun : Tryz.prog.underlying 32 = some (.slice 52) := Tryz.underlying32
  have hbz := Blk.new w (d.arr sp) 52
  have f1 := (Fr.refl [] w).alloc (.cells (d.arr sp) 52)
  have h1 := h.fr0 f1
  have hb1 := hb.fr f1
  have hsz : w.heap.size < (w.alloc (.cells (d.arr sp) 52)).heap.size := hbz.lt
  have hT : v.t ≠ w.heap.size := by have := h.blk.lt; omega
  have hfoot : ∀ x ∈ v.foot, x ≠ w.heap.size := fun x hx => by have := h.lt x hx; omega
  have HW := Lib.hid h
  clear h hb
  go_enter Tryz.func188, Tryz.ntmps188
  go_wp2
  obtain ⟨Z, hZ⟩ : ∃ Z, w.heap.size = Z := ⟨_, rfl⟩
  rw [hZ] at hbz hsz hT hfoot
  obtain ⟨w1, hw1⟩ : ∃ w1, w.alloc (.cells (d.arr sp) 52) = w1 := ⟨_, rfl⟩
  rw [hw1] at hbz f1 h1 hb1 hsz
  simp only [hZ]
  rw [show (w.alloc (.cells (d.arr sp) 52)) = w1 from hw1]
  have k7 : ∀ wx, Fr [Z] w1 wx → wx.cell? ⟨v.t, 7, none⟩ = some (.int .i64 m.there) := fun wx hf => hf.cell h1.c7 (by simp [hT])
  have k6 : ∀ wx, Fr [Z] w1 wx → wx.cell? ⟨v.t, 6, none⟩ = some (.int .i64 m.near) := fun wx hf => hf.cell h1.c6 (by simp [hT])
  have HZ : Hid (Blk w1 Z (d.arr sp) 52) := Lib.hid hbz
  have H := Lib.hid h1
  have HB := Lib.hid hb1
  have F1 := Lib.hid f1
  have HZ0 := Lib.hid hZ
  clear hbz h1 hb1 f1 hZ hw1
  refine wp_region_keepsB [Z] [false, false, false, false, false, false, false, false, false, true, false, true] [none, none, none, none, none, none, none, none, none, some 11, none, some 12] (fun w => Blk w Z #[.int .i64 d.to, .int .i64 d.fr, .bool d.rs, .int .i64 d.fm, .int .i64 d.kd, .int .i64 d.ns, .int .i64 d.nr, .bool d.po, .slice sp.A sp.n sp.c] 52) [Is (.pointer (some ⟨v.t, 0, none⟩)), Is (.pointer (some ⟨v.t, 0, none⟩)), Is (.pointer (some ⟨v.t, 7, none⟩)), Is (.int .i64 m.there), Is (.pointer (some ⟨v.t, 0, none⟩)), Is (.pointer (some ⟨v.t, 0, none⟩)), Is (.pointer (some ⟨v.t, 6, none⟩)), Is (.int .i64 m.near), Is (.pointer (some ⟨Z, 0, none⟩)), (fun w _ => Blk w Z #[.int .i64 m.there, .int .i64 d.fr, .bool d.rs, .int .i64 d.fm, .int .i64 d.kd, .int .i64 d.ns, .int .i64 d.nr, .bool d.po, .slice sp.A sp.n sp.c] 52), Is (.pointer (some ⟨Z, 1, none⟩)), (fun w _ => Blk w Z #[.int .i64 m.there, .int .i64 m.near, .bool d.rs, .int .i64 d.fm, .int .i64 d.kd, .int .i64 d.ns, .int .i64 d.nr, .bool d.po, .slice sp.A sp.n sp.c] 52)] 12 (by kernel_rfl) (by kernel_rfl) (by kernel_rfl) (by kernel_rfl) (by kernel_rfl) (by kernel_rfl) (by kernel_rfl) (by kernel_rfl) ?hV (fun _ _ f h => Blk.fr h f (by simp)) (HZ.out) ?hS ?hD
  case hV =>
    repeat (first | exact trivial | exact Is.keepsN _ | exact Any.keepsN | exact (fun _ _ _ f h => Blk.fr h f (by simp)) | refine And.intro ?_ ?_)
  case hS =>
    (repeat' (first | exact trivial | refine And.intro ?_ ?_))
    · intro ac wx hf hbs hs hp K hK
      simp only [zA, Region.binds, Nat.reduceAdd] at hp
      have hs0 := hs 0 (by kernel_rfl)
      simp only [Array.getD_eq_getD_getElem?, List.getElem?_toArray, List.getElem?_cons_succ, List.getElem?_cons_zero, Option.getD_some] at hs0
      clear hs
      clear hbs
      try simp only [holdsB, exists_const, nth, Is, Any, true_and, and_true, List.getElem?_cons_zero, List.getElem?_cons_succ, Option.bind_some, Array.getD_eq_getD_getElem?] at hp
      clear hp
      clear hf
      go_simp
      try dsimp only
      refine hK.out _ _ ?_ ?_
      · change Fr [] _ _
        (repeat (first | with_reducible (first | exact Fr.refl _ _ | assumption | refine Fr.drew ?_ | refine Fr.drewN ?_ _ | refine Fr.alloc ?_ _ | refine Fr.setL ?_ _ _ _ ?_) | (left; simp; done) | (right; first | (simp; done) | (simp; omega) | omega)); done)
      · simp only [nth]
        first | (unfold Is; rfl) | (unfold Any; exact trivial) | exact IsSl.new _ _ _ _ | assumption
    · intro ac wx hf hbs hs hp K hK
      simp only [zA, Region.binds, Nat.reduceAdd] at hp
      clear hs
      clear hbs
      try simp only [holdsB, exists_const, nth, Is, Any, true_and, and_true, List.getElem?_cons_zero, List.getElem?_cons_succ, Option.bind_some, Array.getD_eq_getD_getElem?] at hp
      have h0 := hp
      clear hp
      clear hf
      (try simp only [h0])
      go_simp
      try dsimp only
      refine hK.out _ _ ?_ ?_
      · change Fr [] _ _
        (repeat (first | with_reducible (first | exact Fr.refl _ _ | assumption | refine Fr.drew ?_ | refine Fr.drewN ?_ _ | refine Fr.alloc ?_ _ | refine Fr.setL ?_ _ _ _ ?_) | (left; simp; done) | (right; first | (simp; done) | (simp; omega) | omega)); done)
      · simp only [nth]
        first | (unfold Is; rfl) | (unfold Any; exact trivial) | exact IsSl.new _ _ _ _ | assumption
    · intro ac wx hf hbs hs hp K hK
      simp only [zA, Region.binds, Nat.reduceAdd] at hp
      clear hs
      clear hbs
      try simp only [holdsB, exists_const, nth, Is, Any, true_and, and_true, List.getElem?_cons_zero, List.getElem?_cons_succ, Option.bind_some, Array.getD_eq_getD_getElem?] at hp
      have h1 := hp
      clear hp
      clear hf
      (try simp only [h1])
      go_simp
      try dsimp only
      refine hK.out _ _ ?_ ?_
      · change Fr [] _ _
        (repeat (first | with_reducible (first | exact Fr.refl _ _ | assumption | refine Fr.drew ?_ | refine Fr.drewN ?_ _ | refine Fr.alloc ?_ _ | refine Fr.setL ?_ _ _ _ ?_) | (left; simp; done) | (right; first | (simp; done) | (simp; omega) | omega)); done)
      · simp only [nth]
        first | (unfold Is; rfl) | (unfold Any; exact trivial) | exact IsSl.new _ _ _ _ | assumption
    · intro ac wx hf hbs hs hp K hK
      simp only [zA, Region.binds, Nat.reduceAdd] at hp
      clear hs
      clear hbs
      try simp only [holdsB, exists_const, nth, Is, Any, true_and, and_true, List.getElem?_cons_zero, List.getElem?_cons_succ, Option.bind_some, Array.getD_eq_getD_getElem?] at hp
      have h2 := hp
      clear hp
      have cx := k7 wx hf
      clear hf
      (try simp only [h2])
      go_simp
      try dsimp only
      refine hK.out _ _ ?_ ?_
      · change Fr [] _ _
        (repeat (first | with_reducible (first | exact Fr.refl _ _ | assumption | refine Fr.drew ?_ | refine Fr.drewN ?_ _ | refine Fr.alloc ?_ _ | refine Fr.setL ?_ _ _ _ ?_) | (left; simp; done) | (right; first | (simp; done) | (simp; omega) | omega)); done)
      · simp only [nth]
        first | (unfold Is; rfl) | (unfold Any; exact trivial) | exact IsSl.new _ _ _ _ | assumption
    · intro ac wx hf hbs hs hp K hK
      simp only [zA, Region.binds, Nat.reduceAdd] at hp
      have hs0 := hs 0 (by kernel_rfl)
      simp only [Array.getD_eq_getD_getElem?, List.getElem?_toArray, List.getElem?_cons_succ, List.getElem?_cons_zero, Option.getD_some] at hs0
      clear hs
      clear hbs
      try simp only [holdsB, exists_const, nth, Is, Any, true_and, and_true, List.getElem?_cons_zero, List.getElem?_cons_succ, Option.bind_some, Array.getD_eq_getD_getElem?] at hp
      clear hp
      clear hf
      go_simp
      try dsimp only
      refine hK.out _ _ ?_ ?_
      · change Fr [] _ _
        (repeat (first | with_reducible (first | exact Fr.refl _ _ | assumption | refine Fr.drew ?_ | refine Fr.drewN ?_ _ | refine Fr.alloc ?_ _ | refine Fr.setL ?_ _ _ _ ?_) | (left; simp; done) | (right; first | (simp; done) | (simp; omega) | omega)); done)
      · simp only [nth]
        first | (unfold Is; rfl) | (unfold Any; exact trivial) | exact IsSl.new _ _ _ _ | assumption
    · intro ac wx hf hbs hs hp K hK
      simp only [zA, Region.binds, Nat.reduceAdd] at hp
      clear hs
      clear hbs
      try simp only [holdsB, exists_const, nth, Is, Any, true_and, and_true, List.getElem?_cons_zero, List.getElem?_cons_succ, Option.bind_some, Array.getD_eq_getD_getElem?] at hp
      have h4 := hp
      clear hp
      clear hf
      (try simp only [h4])
      go_simp
      try dsimp only
      refine hK.out _ _ ?_ ?_
      · change Fr [] _ _
        (repeat (first | with_reducible (first | exact Fr.refl _ _ | assumption | refine Fr.drew ?_ | refine Fr.drewN ?_ _ | refine Fr.alloc ?_ _ | refine Fr.setL ?_ _ _ _ ?_) | (left; simp; done) | (right; first | (simp; done) | (simp; omega) | omega)); done)
      · simp only [nth]
        first | (unfold Is; rfl) | (unfold Any; exact trivial) | exact IsSl.new _ _ _ _ | assumption
    · intro ac wx hf hbs hs hp K hK
      simp only [zA, Region.binds, Nat.reduceAdd] at hp
      clear hs
      clear hbs
      try simp only [holdsB, exists_const, nth, Is, Any, true_and, and_true, List.getElem?_cons_zero, List.getElem?_cons_succ, Option.bind_some, Array.getD_eq_getD_getElem?] at hp
      have h5 := hp
      clear hp
      clear hf
      (try simp only [h5])
      go_simp
      try dsimp only
      refine hK.out _ _ ?_ ?_
      · change Fr [] _ _
        (repeat (first | with_reducible (first | exact Fr.refl _ _ | assumption | refine Fr.drew ?_ | refine Fr.drewN ?_ _ | refine Fr.alloc ?_ _ | refine Fr.setL ?_ _ _ _ ?_) | (left; simp; done) | (right; first | (simp; done) | (simp; omega) | omega)); done)
      · simp only [nth]
        first | (unfold Is; rfl) | (unfold Any; exact trivial) | exact IsSl.new _ _ _ _ | assumption
    · intro ac wx hf hbs hs hp K hK
      simp only [zA, Region.binds, Nat.reduceAdd] at hp
      clear hs
      clear hbs
      try simp only [holdsB, exists_const, nth, Is, Any, true_and, and_true, List.getElem?_cons_zero, List.getElem?_cons_succ, Option.bind_some, Array.getD_eq_getD_getElem?] at hp
      have h6 := hp
      clear hp
      have cx := k6 wx hf
      clear hf
      (try simp only [h6])
      go_simp
      try dsimp only
      refine hK.out _ _ ?_ ?_
      · change Fr [] _ _
        (repeat (first | with_reducible (first | exact Fr.refl _ _ | assumption | refine Fr.drew ?_ | refine Fr.drewN ?_ _ | refine Fr.alloc ?_ _ | refine Fr.setL ?_ _ _ _ ?_) | (left; simp; done) | (right; first | (simp; done) | (simp; omega) | omega)); done)
      · simp only [nth]
        first | (unfold Is; rfl) | (unfold Any; exact trivial) | exact IsSl.new _ _ _ _ | assumption
    · intro ac wx hf hbs hs hp K hK
      simp only [zA, Region.binds, Nat.reduceAdd] at hp
      have hs3 := hs 3 (by kernel_rfl)
      simp only [Array.getD_eq_getD_getElem?, List.getElem?_toArray, List.getElem?_cons_succ, List.getElem?_cons_zero, Option.getD_some] at hs3
      clear hs
      clear hbs
      try simp only [holdsB, exists_const, nth, Is, Any, true_and, and_true, List.getElem?_cons_zero, List.getElem?_cons_succ, Option.bind_some, Array.getD_eq_getD_getElem?] at hp
      obtain ⟨h0, h1, h2, h3⟩ := hp
      clear hf
      (try simp only [h0, h1, h2, h3])
      go_simp
      try dsimp only
      refine hK.out _ _ ?_ ?_
      · change Fr [] _ _
        (repeat (first | with_reducible (first | exact Fr.refl _ _ | assumption | refine Fr.drew ?_ | refine Fr.drewN ?_ _ | refine Fr.alloc ?_ _ | refine Fr.setL ?_ _ _ _ ?_) | (left; simp; done) | (right; first | (simp; done) | (simp; omega) | omega)); done)
      · simp only [nth]
        first | (unfold Is; rfl) | (unfold Any; exact trivial) | exact IsSl.new _ _ _ _ | assumption
    · intro ac wx hf hbs hs hp K hK
      simp only [zA, Region.binds, Nat.reduceAdd] at hp
      clear hs
      try simp only [holdsB, exists_const, nth, Is, Any, true_and, and_true, List.getElem?_cons_zero, List.getElem?_cons_succ, Option.bind_some, Array.getD_eq_getD_getElem?] at hp
      obtain ⟨h8, h3, h0, h1, h2, h3_2⟩ := hp
      have hbz : Blk wx Z #[.int .i64 d.to, .int .i64 d.fr, .bool d.rs, .int .i64 d.fm, .int .i64 d.kd, .int .i64 d.ns, .int .i64 d.nr, .bool d.po, .slice sp.A sp.n sp.c] 52 := hbs (by kernel_rfl)
      have cz : wx.cell? ⟨Z, 0, none⟩ = some (.int .i64 d.to) := hbz.cell 0 rfl
      have fz := hbz.free 0
      have HBZ := Lib.hid hbz
      have HF := Lib.hid hf
      clear hf hbz hbs
      (try simp only [h8, h3, h0, h1, h2])
      go_simp
      refine hK.out (.tuple #[]) _ ⟨[Z], (Fr.refl [Z] wx).setCell _ (.inl (by simp)), fun x hx => .inl hx⟩ ?_
      simp only [nth]
      exact Blk.set HBZ.out 0 (.int .i64 m.there) rfl
    · intro ac wx hf hbs hs hp K hK
      simp only [zA, Region.binds, Nat.reduceAdd] at hp
      have hs3 := hs 3 (by kernel_rfl)
      simp only [Array.getD_eq_getD_getElem?, List.getElem?_toArray, List.getElem?_cons_succ, List.getElem?_cons_zero, Option.getD_some] at hs3
      clear hs
      clear hbs
      try simp only [holdsB, exists_const, nth, Is, Any, true_and, and_true, List.getElem?_cons_zero, List.getElem?_cons_succ, Option.bind_some, Array.getD_eq_getD_getElem?] at hp
      obtain ⟨h0, h1, h2, h3, h4, h5, h6, h7, h8, h9⟩ := hp
      clear hf
      (try simp only [h0, h1, h2, h3, h4, h5, h6, h7, h8])
      go_simp
      try dsimp only
      refine hK.out _ _ ?_ ?_
      · change Fr [] _ _
        (repeat (first | with_reducible (first | exact Fr.refl _ _ | assumption | refine Fr.drew ?_ | refine Fr.drewN ?_ _ | refine Fr.alloc ?_ _ | refine Fr.setL ?_ _ _ _ ?_) | (left; simp; done) | (right; first | (simp; done) | (simp; omega) | omega)); done)
      · simp only [nth]
        first | (unfold Is; rfl) | (unfold Any; exact trivial) | exact IsSl.new _ _ _ _ | assumption
    · intro ac wx hf hbs hs hp K hK
      simp only [zA, Region.binds, Nat.reduceAdd] at hp
      clear hs
      clear hbs
      try simp only [holdsB, exists_const, nth, Is, Any, true_and, and_true, List.getElem?_cons_zero, List.getElem?_cons_succ, Option.bind_some, Array.getD_eq_getD_getElem?] at hp
      obtain ⟨h10, h7, h9, h0, h1, h2, h3, h4, h5, h6, h7_2, h8, h9_2⟩ := hp
      have hbz : Blk wx Z #[.int .i64 m.there, .int .i64 d.fr, .bool d.rs, .int .i64 d.fm, .int .i64 d.kd, .int .i64 d.ns, .int .i64 d.nr, .bool d.po, .slice sp.A sp.n sp.c] 52 := h9
      have cz : wx.cell? ⟨Z, 1, none⟩ = some (.int .i64 d.fr) := hbz.cell 1 rfl
      have fz := hbz.free 1
      have HBZ := Lib.hid hbz
      have HF := Lib.hid hf
      clear hf hbz h9
      (try simp only [h10, h7, h0, h1, h2, h3, h4, h5, h6, h8])
      go_simp
      refine hK.out (.tuple #[]) _ ⟨[Z], (Fr.refl [Z] wx).setCell _ (.inl (by simp)), fun x hx => .inl hx⟩ ?_
      simp only [nth]
      exact Blk.set HBZ.out 1 (.int .i64 m.near) rfl
  case hD =>
    intro xv wx hf hp
    simp only [List.take_succ_cons, List.take_zero, List.drop_succ_cons, List.drop_zero, fill, List.setIfInBounds_toArray, List.set_cons_zero, List.set_cons_succ, Nat.reduceAdd, Act.put]
    rw [show live 12 (deadC [none, none, none, none, none, none, none, none, none, some 11, none, some 12]) = [0, 1, 2, 3, 4, 5, 6, 7, 8, 10, 11] from by decide] at hp
    simp only [holds, nth, Is, Any, true_and, and_true] at hp
    obtain ⟨p0, p1, p2, p3, p4, p5, p6, p7, p8, p10, p11⟩ := hp
    have htx : IsTie wx v m := H.out.frL hf (fun x hx hm => by simp at hx; subst hx; exact hfoot _ hm rfl) (fun x hx => by simp at hx; subst hx; rw [← HZ0.out]; exact HW.out.hile) (TyOut.cons HZ.out (by decide) (TyOut.nil _ _)) (fun x hx => by simp at hx; subst hx; rw [← HZ0.out]; exact HW.out.young (Nat.le_refl _))
    have hbx : Bts 0 wx sp d.info := HB.out.frL hf (fun x hx => by simp at hx; subst hx; exact ⟨Nat.zero_le _, Blk.noB HZ.out (by decide)⟩)
    have fx : Fr v.foot w wx := (F1.out.mono (M := v.foot) (by simp)).trans hf (fun x hx => .inr (by simp at hx; subst hx; rw [← HZ0.out]; exact Nat.le_refl _))
    have c30 := htx.c30
    have c30a := (htx.fr0 ((Fr.refl [] wx).alloc (.cells #[.int .i64 m.there, .int .i64 m.near, .bool d.rs, .int .i64 d.fm, .int .i64 d.kd, .int .i64 d.ns, .int .i64 d.nr, .bool d.po, .slice sp.A sp.n sp.c] 52))).c30
    have q0 : wx.cell? ⟨Z, 0, none⟩ = some (.int .i64 m.there) := p11.cell 0 rfl
    have q1 : wx.cell? ⟨Z, 1, none⟩ = some (.int .i64 m.near) := p11.cell 1 rfl
    have q2 : wx.cell? ⟨Z, 2, none⟩ = some (.bool d.rs) := p11.cell 2 rfl
    have q3 : wx.cell? ⟨Z, 3, none⟩ = some (.int .i64 d.fm) := p11.cell 3 rfl
    have q4 : wx.cell? ⟨Z, 4, none⟩ = some (.int .i64 d.kd) := p11.cell 4 rfl
    have q5 : wx.cell? ⟨Z, 5, none⟩ = some (.int .i64 d.ns) := p11.cell 5 rfl
    have q6 : wx.cell? ⟨Z, 6, none⟩ = some (.int .i64 d.nr) := p11.cell 6 rfl
    have q7 : wx.cell? ⟨Z, 7, none⟩ = some (.bool d.po) := p11.cell 7 rfl
    have q8 : wx.cell? ⟨Z, 8, none⟩ = some (.slice sp.A sp.n sp.c) := p11.cell 8 rfl
    have fa := ((Fr.refl [] wx).alloc (.cells #[.int .i64 m.there, .int .i64 m.near, .bool d.rs, .int .i64 d.fm, .int .i64 d.kd, .int .i64 d.ns, .int .i64 d.nr, .bool d.po, .slice sp.A sp.n sp.c] 52)).drew
    have hta := htx.fr0 fa
    have hba := hbx.fr fa
    have hsr : Src 1 (#[.int .i64 m.there, .int .i64 m.near, .bool d.rs, .int .i64 d.fm, .int .i64 d.kd, .int .i64 d.ns, .int .i64 d.nr, .bool d.po, .slice sp.A sp.n sp.c]).toList (wx.alloc (.cells #[.int .i64 m.there, .int .i64 m.near, .bool d.rs, .int .i64 d.fm, .int .i64 d.kd, .int .i64 d.ns, .int .i64 d.nr, .bool d.po, .slice sp.A sp.n sp.c] 52)).drew (.slice (some ⟨wx.heap.size, 0, none⟩) 1 1) := Src.fr Src.one ((Fr.refl [] _).drew) (fun _ _ _ _ => by simp)
    obtain ⟨xs, ho, h2, h3⟩ := hta.os
    have HR := Lib.hid (And.intro h2 h3)
    have HO := Lib.hid ho
    have HTA := Lib.hid hta
    have HBA := Lib.hid hba
    have FX := Lib.hid (fx.tr0 fa)
    have HSR := Lib.hid hsr
    clear p0 p1 p2 p3 p4 p5 p6 p7 p8 p10 p11 k6 k7 htx hbx fx fa hta hba hsr ho h2 h3 hf
    have haft : ∀ (s' : Sl) (w3 : World), Pushed (wx.alloc (.cells #[.int .i64 m.there, .int .i64 m.near, .bool d.rs, .int .i64 d.fm, .int .i64 d.kd, .int .i64 d.ns, .int .i64 d.nr, .bool d.po, .slice sp.A sp.n sp.c] 52)).drew w3 52 9 v.os s' (m.send.length + 1) (xs.flatten ++ (#[.int .i64 m.there, .int .i64 m.near, .bool d.rs, .int .i64 d.fm, .int .i64 d.kd, .int .i64 d.ns, .int .i64 d.nr, .bool d.po, .slice sp.A sp.n sp.c]).toList) → w3.cell? ⟨v.t, 30, none⟩ = some (.slice v.os.A v.os.n v.os.c) ∧ w3.frozen? ⟨v.t, 30, none⟩ = false ∧ TieTo w (w3.setCell ⟨v.t, 30, none⟩ (.slice s'.A s'.n s'.c)) v (sendM m d) := by
      intro s' w3 hp
      have hU : ∀ x ∈ v.os.blk, ∀ cs fz, (wx.alloc (.cells #[.int .i64 m.there, .int .i64 m.near, .bool d.rs, .int .i64 d.fm, .int .i64 d.kd, .int .i64 d.ns, .int .i64 d.nr, .bool d.po, .slice sp.A sp.n sp.c] 52)).drew.heap[x]? ≠ some (.cells cs 5 fz) := (PRow.off HTA.out.os (Nat.zero_le _) · · |>.2)
      have hrow : PRow 0 0 s' (m.send ++ [{ d with to := m.there, fr := m.near }]) w3 := RowG.push HR.out.1 HR.out.2 hp.1 (fun cs d' ⟨s, e, hb⟩ => ⟨s, e, hb.frL hp.2.1 (fun x hx => ⟨Nat.zero_le _, hU x hx⟩)⟩) rfl ⟨sp, rfl, HBA.out.frL hp.2.1 (fun x hx => ⟨Nat.zero_le _, hU x hx⟩)⟩
      have hto := HTA.out.setOs hp.2.1 hrow hp.2.2
      have hfin := TieTo.trans FX.out (fun x hx => .inl hx) rfl rfl hto
      have htb : Blk w3 v.t (m.cells v) 105 := HTA.out.blk.ofTy hp.2.1 (by obtain ⟨_, ho⟩ := HTA.out.os.own; exact TyOut.own ho (by decide))
      have c30' : w3.cell? ⟨v.t, 30, none⟩ = some (.slice v.os.A v.os.n v.os.c) := htb.cell 30 rfl
      have z30 := htb.free 30
      exact ⟨c30', z30, hfin⟩
    have HAFT := Lib.hid haft
    clear haft
    have mixed : Tryz.prog.follows Departure.mixedOrders = true := by kernel_rfl
    go_wp2
    go_region_law_o (
      refine step_push rfl (.tmp 19) (.tmp 21) 32 rfl 52 i0 (.agg #[.int .i64 0, .int .i64 0, .bool false, .int .i64 0, .int .i64 0, .int .i64 0, .int .i64 0, .bool false, .slice none 0 0]) 9 88 hun hi0 hz0 hz1 hz2 rfl (by decide) v.os m.send.length xs.flatten (by simp [Act.eval, Act.put]) HO.out (.slice (some ⟨wx.heap.size, 0, none⟩) 1 1) 1 (#[.int .i64 m.there, .int .i64 m.near, .bool d.rs, .int .i64 d.fm, .int .i64 d.kd, .int .i64 d.ns, .int .i64 d.nr, .bool d.po, .slice sp.A sp.n sp.c]).toList (by simp [Act.eval, Act.put]) HSR.out rfl (by intro u hu; simp at hu; rcases hu with rfl | rfl | rfl | rfl | rfl | rfl | rfl | rfl | rfl <;> rfl) (by unfold maxLen; omega) (by omega) ?_
      intro s' w3 hp
      have hall := HAFT.out s' w3 hp
      have c30' := hall.1
      have z30 := hall.2.1
      have HFIN := Lib.hid hall.2.2
      clear hall hp c30 c30a q0 q1 q2 q3 q4 q5 q6 q7 q8)
    all_goals
      go_wp2
      go_end0
      exact ⟨rfl, HFIN.out⟩

end Go.Proofs.YtneggoonlmmjeaaGreat
namespace Go.Proofs.YtneggoonlmmjeaaGreat
open Go.RowKit Go.Shelf
set_option linter.unusedVariables false
set_option linter.unusedSimpArgs false
set_option maxRecDepth 100000

theorem mixed_ : Tryz.prog.follows Departure.mixedOrders = true := by kernel_rfl
theorem int_info : ∃ i0 : TypeInfo, Tryz.prog.info? 3 = some i0 ∧ i0.zero = some (.int .i64 0) ∧ i0.size = 1 ∧ i0.bytes = 8 :=
  info_parts (show (Tryz.prog.info? 3).map (fun i => (i.zero, i.size, i.bytes)) = some (some (.int .i64 0), 1, 8) by kernel_rfl)

def sayM (m : TM) (a : Int) : TM := { m with say := m.say ++ [a] }
set_option maxHeartbeats 2000000 in
theorem tie_say1 (w : World) (v : TV) (m : TM) (a : Int) (b0 b1 : Nat) (h : IsTie w v m) (h0 : w.cell? ⟨b0, 0, none⟩ = some (.pointer (some ⟨v.t, 0, none⟩))) (h1 : w.cell? ⟨b1, 0, none⟩ = some (.int .i64 a)) (hb0 : b0 ∉ v.foot) (hs : m.say.length ≤ 100000) :
    Calls Tryz.prog 193 #[.pointer (some ⟨b0, 0, none⟩), .pointer (some ⟨b1, 0, none⟩)] w fun e w' => e = .returned (.tuple #[]) ∧ TieTo w w' v (sayM m a) := by
  obtain ⟨i0, hi0, hz0, hz1, hz2⟩ := int_info
  have hun : Tryz.prog.underlying 33 = some (.slice 3) := Tryz.underlying33
  have mixed := mixed_
  have c31 := h.c31
  have c31a := (h.fr0 ((Fr.refl [] w).alloc (.cells #[.int .i64 a] 3))).c31
  have h0a := ((Fr.refl [] w).alloc (.cells #[.int .i64 a] 3)).cell h0 (by simp)
  have h1a := ((Fr.refl [] w).alloc (.cells #[.int .i64 a] 3)).cell h1 (by simp)
  have fa := ((Fr.refl [] w).alloc (.cells #[.int .i64 a] 3)).drew
  have hta := h.fr0 fa
  have hsr : Src 1 [.int .i64 a] (w.alloc (.cells #[.int .i64 a] 3)).drew (.slice (some ⟨w.heap.size, 0, none⟩) 1 1) := Src.fr (Src.one (cs := #[.int .i64 a])) ((Fr.refl [] _).drew) (fun _ _ _ _ => by simp)
  have haft : ∀ (s' : Sl) (w3 : World), Pushed (w.alloc (.cells #[.int .i64 a] 3)).drew w3 3 1 v.oy s' (m.say.length + 1) (m.say.map (Value.int .i64) ++ [.int .i64 a]) → w3.cell? ⟨v.t, 31, none⟩ = some (.slice v.oy.A v.oy.n v.oy.c) ∧ w3.frozen? ⟨v.t, 31, none⟩ = false ∧ w3.cell? ⟨b0, 0, none⟩ = some (.pointer (some ⟨v.t, 0, none⟩)) ∧ TieTo w (w3.setCell ⟨v.t, 31, none⟩ (.slice s'.A s'.n s'.c)) v (sayM m a) := by
    intro s' w3 hp
    have htb : Blk w3 v.t (m.cells v) 105 := hta.blk.ofTy hp.2.1 (TyOut.own hta.oy (by decide))
    have hp' : Pushed (w.alloc (.cells #[.int .i64 a] 3)).drew w3 3 1 v.oy s' (m.say ++ [a]).length ((m.say ++ [a]).map (Value.int .i64)) := by
      rw [List.length_append, List.map_append]
      exact hp
    exact ⟨htb.cell 31 rfl, htb.free 31, hp.2.1.cell (fa.cell h0 (by simp)) (fun hm => hb0 (by simp only [TV.foot, List.mem_cons, List.mem_append]; simp [hm])), TieTo.trans (fa.mono (by simp)) (fun x hx => .inl hx) rfl rfl (hta.setOy hp')⟩
  have HAFT := Lib.hid haft
  have HO := Lib.hid hta.oy
  have HSR := Lib.hid hsr
  clear h fa hta hsr haft
  go_enter Tryz.func193, Tryz.ntmps193
  go_wp2
  go_region_law_o (
    refine step_push rfl (.tmp 7) (.tmp 9) 33 rfl 3 i0 (.int .i64 0) 1 8 hun hi0 hz0 hz1 hz2 rfl (by decide) v.oy m.say.length (m.say.map (Value.int .i64)) (by simp [Act.eval, Act.put]) HO.out (.slice (some ⟨w.heap.size, 0, none⟩) 1 1) 1 [.int .i64 a] (by simp [Act.eval, Act.put]) HSR.out rfl (by intro u hu; simp at hu; subst hu; rfl) (by unfold maxLen; omega) (by omega) ?_
    intro s' w3 hp
    have hall := HAFT.out s' w3 hp
    have c31' := hall.1
    have z31 := hall.2.1
    have h0b := hall.2.2.1
    have HFIN := Lib.hid hall.2.2.2
    clear hall hp c31 c31a h0 h0a h1 h1a)
  all_goals
    go_wp2
    go_end0
    exact ⟨rfl, HFIN.out⟩

/-- Retries anew, no timer P. -/
def zeroM (m : TM) : TM := { m with retries := 0, tm := tstop m.tm 30 }
theorem tie_zero (w : World) (v : TV) (m : TM) (h : IsTie w v m) (hl : m.tm.length ≤ 1000) :
    Calls Tryz.prog 162 #[.pointer (some ⟨v.t, 0, none⟩)] w fun e w' => e = .returned (.tuple #[]) ∧ TieTo w w' v (zeroM m) := by
  have c18 := h.c18
  have z18 := h.z 18
  obtain ⟨h1, f1⟩ := h.set1 18 (.int .i64 0) { m with retries := 0 } rfl rfl
  have c15 := h1.c15
  have H1 := Lib.hid h1
  have F1 := Lib.hid (h1.toT f1)
  have FF := Lib.hid f1
  clear h h1 f1
  go_enter Tryz.func162, Tryz.ntmps162
  go_wp2_with fail
  refine (clk_Stop _ v.c v.cl 4 v.now m.tm 30 H1.out.clk hl).mono ?_
  rintro e w2 ⟨rfl, hc⟩
  have h2 := H1.out.setClk hc
  have HFIN := Lib.hid (TieTo.trans (FF.out.mono (fun x hx => .inl (by simp at hx; subst hx; exact v.t_foot))) (fun x hx => .inl hx) rfl rfl h2)
  clear hc h2 c18 c15
  go_wp2
  go_end0
  exact ⟨rfl, HFIN.out⟩

/-- An epoch begins. -/
def clearM (m : TM) : TM := { m with vs := 0, vr := 0, va := 0, out := 0, q := [], wide := m.cw, count := 0, busy := false, epoch := m.epoch + 1 }
set_option maxHeartbeats 1000000 in
theorem tie_clear (w : World) (v : TV) (m : TM) (h : IsTie w v m) (hq : m.q = []) (he : 0 ≤ m.epoch ∧ m.epoch ≤ 1000000) :
    Calls Tryz.prog 150 #[.pointer (some ⟨v.t, 0, none⟩)] w fun e w' => e = .returned (.tuple #[]) ∧ TieTo w w' v (clearM m) := by
  have hw : IntKind.i64.wrap (m.epoch + 1) = m.epoch + 1 := IntWalk.i64_in _ (by omega)
  have HQ := Lib.hid hq
  clear hq
  go_enter Tryz.func150, Tryz.ntmps150
  go_wp2_with fail
  refine (vars_Clear v.t (m.cells v) m.vs m.vr m.va w h.v3).mono ?_
  rintro e w1 ⟨rfl, hv, f1⟩
  have h1 : IsTie w1 v { m with vs := 0, vr := 0, va := 0 } := h.upd f1 hv.2 rfl
  have F1 : Fr v.foot w w1 := f1.foot
  have c13 := h1.c13
  clear hv f1 h
  go_wp2_with fail
  refine (back_Clear0 w1 v.k v.q v.ql 64 m.out (by have := h1.back; rw [show ({ m with vs := 0, vr := 0, va := 0 } : TM).q = [] from HQ.out] at this; exact this)).mono ?_
  rintro e w2 ⟨rfl, hk, f2⟩
  obtain ⟨h2, g2⟩ := h1.setBack1 (out := 0) (l := []) hk f2
  have F2 := F1.tr g2
  have c14 := h2.c14
  clear hk f2 g2 h1 F1 c13
  go_wp2_with fail
  refine (win_Fresh v.w m.cw m.wide m.count w2 h2.win).mono ?_
  rintro e w3 ⟨rfl, hn, f3⟩
  obtain ⟨h3, g3⟩ := h2.setWin (d := m.cw) (c := 0) hn f3
  have F3 := F2.tr g3
  have c19 := h3.c19
  have z19 := h3.z 19
  clear hn f3 g3 h2 F2 c14
  obtain ⟨h4, g4⟩ := h3.set1 19 (.bool false) { m with vs := 0, vr := 0, va := 0, out := 0, q := [], wide := m.cw, count := 0, busy := false } rfl rfl
  have F4 := F3.tr g4.foot
  have c20 := h4.c20
  have z20 := h4.z 20
  obtain ⟨h5, g5⟩ := h4.set1 20 (.int .i64 (m.epoch + 1)) (clearM m) rfl rfl
  have HFIN := Lib.hid (TieTo.same h5 (F4.tr g5.foot))
  clear h3 h4 h5 g4 g5 F3 F4
  go_wp2
  go_end0
  exact ⟨rfl, HFIN.out⟩

end Go.Proofs.YtneggoonlmmjeaaGreat
namespace Go.Proofs.YtneggoonlmmjeaaGreat
open Go.RowKit
set_option linter.unusedVariables false
set_option linter.unusedSimpArgs false
set_option maxRecDepth 100000

/-- A pointer that this operation, one of Fs, makes: not below block n. -/
def NewP (Fs : List Nat) (i n : Nat) (v : Value) : Prop := Fs.contains i = true → ∀ b, v = .pointer (some ⟨b, 0, none⟩) → n ≤ b
def OldP (w : World) (v : Value) : Prop := ∀ b, v = .pointer (some ⟨b, 0, none⟩) → b < w.heap.size
def AptP (Fs : List Nat) (n : Nat) (x : Nat → Value) : Prop := ∀ i j, i < n → j < n → i ≠ j → Fs.contains i = true → Fs.contains j = true → ∀ b c, x i = .pointer (some ⟨b, 0, none⟩) → x j = .pointer (some ⟨c, 0, none⟩) → b ≠ c

def parStepsF (Fs : List Nat) (P : Program) (md : Region.Mode) (all l : List Oper) (Q : Exit → Act → World → Prop) (L : List Nat) (V : Nat → World → Value → Prop) (t : Array Value) (df : List Deferred) (w : World) : List Oper → Nat → Prop
  | [], _ => True
  | o :: r, i => (∀ (x : Nat → Value) (w' : World), Fr L w w' → holds V w' x (waits md o) → ∀ K : Act → World → Prop, Shut (∀ v w'', Fr L w' w'' → V i w'' v → NewP Fs i w'.heap.size v → K (({ tmps := fill l 0 x t, defers := df } : Act).put o.dst v) w'') →
      if Region.wanted o (yielded all.toArray ({ tmps := fill l 0 x t, defers := df } : Act).tmps) = true then o.wp P { tmps := fill l 0 x t, defers := df } w' K Q else K (({ tmps := fill l 0 x t, defers := df } : Act).put o.dst undef) w') ∧
    parStepsF Fs P md all l Q L V t df w r (i + 1)

theorem parStepsF_at {Fs : List Nat} {P : Program} {md : Region.Mode} {all l : List Oper} {Q : Exit → Act → World → Prop} {L : List Nat} {V : Nat → World → Value → Prop} {t : Array Value} {df : List Deferred} {w : World} :
    ∀ {r : List Oper} {k : Nat}, parStepsF Fs P md all l Q L V t df w r k → ∀ {i : Nat} {o : Oper}, r[i]? = some o →
      ∀ (x : Nat → Value) (w' : World), Fr L w w' → holds V w' x (waits md o) → ∀ K : Act → World → Prop, (∀ v w'', Fr L w' w'' → V (k + i) w'' v → NewP Fs (k + i) w'.heap.size v → K (({ tmps := fill l 0 x t, defers := df } : Act).put o.dst v) w'') →
      if Region.wanted o (yielded all.toArray ({ tmps := fill l 0 x t, defers := df } : Act).tmps) = true then o.wp P { tmps := fill l 0 x t, defers := df } w' K Q else K (({ tmps := fill l 0 x t, defers := df } : Act).put o.dst undef) w'
  | [], _, _, _, _, h => by simp at h
  | o :: r, k, hh, 0, p, h => by simp at h; subst h; exact hh.1
  | o :: r, k, hh, i + 1, p, h => by
    have := parStepsF_at hh.2 (i := i) (by simpa using h)
    rw [show k + (i + 1) = k + 1 + i by omega]; exact this

theorem wpAny_parF {Fs : List Nat} {P : Program} {md : Region.Mode} {l zs : List Oper} {Q : Exit → Act → World → Prop} {L : List Nat} {V : Nat → World → Value → Prop} {t : Array Value} {df : List Deferred} {w : World}
    (hA : apartB l = true) (hT : topoB md (l ++ zs) = true) (hW : tailB md (l ++ zs) l.length = true) (hV : ∀ i w w' v, i < l.length → Fr L w w' → V i w v → V i w' v) (hO : ∀ i w v, i < l.length → Fs.contains i = true → V i w v → OldP w v) (hS : parStepsF Fs P md (l ++ zs) l Q L V t df w l 0)
    (hD : ∀ x w', Fr L w w' → holds V w' x (List.range l.length) → AptP Fs l.length x → wpList P (l ++ zs).toArray Q zs { tmps := fill l 0 x t, defers := df } w') :
    ∀ (f : Nat) (listed : Array Bool) (x : Nat → Value) (w' : World), listed.size = (l ++ zs).length → (∀ i, l.length ≤ i → i < (l ++ zs).length → listed[i]? = some false) → (∀ (j : Nat) (o : Oper), (l ++ zs)[j]? = some o → listed[j]? = some true → ∀ i ∈ waits md o, listed[i]? = some true) → (listed.toList.filter (! ·)).length ≤ f → Fr L w w' → (∀ i, i < l.length → listed[i]? = some true → V i w' (x i)) → (∀ i j, i < l.length → j < l.length → listed[i]? = some true → listed[j]? = some true → i ≠ j → Fs.contains i = true → Fs.contains j = true → ∀ b c, x i = .pointer (some ⟨b, 0, none⟩) → x j = .pointer (some ⟨c, 0, none⟩) → b ≠ c) →
      wpAny P md (l ++ zs).toArray Q f listed { tmps := fill l 0 x t, defers := df } w' := by
  intro f
  induction f with
  | zero =>
    intro listed x w' hn hlast hdc hc hf hv hap
    have hfa : ∀ i, i < listed.size → listed[i]? = some true := fun i hi => by
      cases hb : listed[i] with
      | true => rw [Array.getElem?_eq_getElem hi, hb]
      | false =>
        exfalso
        have : false ∈ listed.toList.filter (! ·) := by
          rw [List.mem_filter]
          exact ⟨by rw [← hb]; simp, rfl⟩
        rw [List.length_eq_zero_iff.1 (Nat.le_zero.1 hc)] at this
        cases this
    have hzn : zs = [] := by
      cases zs with
      | nil => rfl
      | cons z zs =>
        exfalso
        have h1 := hlast l.length (Nat.le_refl _) (by simp)
        rw [hfa l.length (by simp at hn; omega)] at h1
        cases h1
    refine wpAny_tail hT hW zs l.length 0 listed _ w' (Nat.le_refl _) (by simp) hn (fun i hi => ?_) hc (hD x w' hf (holds_of fun j hj => hv j (List.mem_range.1 hj) (hfa j (by simp at hn hj; omega))) (fun i j hi hj => hap i j hi hj (hfa i (by simp at hn; omega)) (hfa j (by simp at hn; omega))))
    rw [hfa i hi]
    subst hzn
    simp at hn
    simp; omega
  | succ f ih =>
    intro listed x w' hn hlast hdc hc hf hv hap
    by_cases hall : ∀ j, j < l.length → listed[j]? = some true
    · refine wpAny_tail hT hW zs l.length (f + 1) listed _ w' (Nat.le_refl _) (by simp) hn (fun i hi => ?_) hc (hD x w' hf (holds_of fun j hj => hv j (List.mem_range.1 hj) (hall j (List.mem_range.1 hj))) (fun i j hi hj => hap i j hi hj (hall i hi) (hall j hj)))
      by_cases h : i < l.length
      · rw [hall i h]; simp [h]
      · rw [hlast i (by omega) (by omega)]; simp [h]
    · have key : ∀ i ∈ Region.ready md (l ++ zs).toArray listed, i < l.length := fun i hi => by
        obtain ⟨h1, o, ho, h2⟩ := mem_ready.1 hi
        have ho' : (l ++ zs)[i]? = some o := by simpa using ho
        have hil : i < (l ++ zs).length := (List.getElem?_eq_some_iff.1 ho').1
        by_cases hc2 : i < l.length
        · exact hc2
        · exfalso
          apply hall
          intro j hj
          simp only [tailB, List.all_eq_true, List.mem_range, Bool.or_eq_true, decide_eq_true_eq] at hW
          rcases hW i hil with h3 | h3
          · exact absurd h3 hc2
          · have h4 := h3 j (by omega)
            rw [ho'] at h4
            simp only [List.contains_eq_mem, decide_eq_true_eq] at h4
            refine clo_of (p := fun j => listed[j]? = some true) hdc _ _ (fun q hq => ?_) j h4
            simp only [waits, List.mem_map, List.mem_filter] at hq
            obtain ⟨e, ⟨he, hb⟩, rfl⟩ := hq
            have h6 := h2 e (by simpa using he) hb
            rw [Array.getD_eq_getD_getElem?] at h6
            cases h7 : listed[e.on]? with
            | none => rw [h7] at h6; cases h6
            | some b => rw [h7] at h6; simp at h6; rw [h6]
      refine ⟨fun hr => ?_, fun i hi => ?_⟩
      · exfalso
        apply hall
        have all : ∀ n i, i < n → i < l.length → listed[i]? = some true := by
          intro n
          induction n with
          | zero => intro i hi; omega
          | succ n ih2 =>
            intro i hi hil
            by_cases hb : listed[i]? = some true
            · exact hb
            · exfalso
              have hlt : i < listed.size := by simp at hn; omega
              have hb' : listed[i]? = some false := by
                rw [Array.getElem?_eq_getElem hlt] at hb ⊢
                cases hx : listed[i] with
                | false => rfl
                | true => rw [hx] at hb; exact absurd rfl hb
              have hil' : i < (l ++ zs).length := by simp; omega
              have : i ∈ Region.ready md (l ++ zs).toArray listed := by
                refine mem_ready.2 ⟨by simp [Array.getD_eq_getD_getElem?, hb'], (l ++ zs)[i], by rw [List.getElem?_toArray, List.getElem?_eq_getElem hil'], fun e he hbd => ?_⟩
                simp only [topoB, List.all_eq_true, List.mem_range] at hT
                have h1 := hT i hil'
                rw [List.getElem?_eq_getElem hil'] at h1
                simp only [List.all_eq_true, decide_eq_true_eq] at h1
                have h2 := h1 e.on (by simp only [waits, List.mem_map, List.mem_filter]; exact ⟨e, ⟨by simpa using he, hbd⟩, rfl⟩)
                have h3 := ih2 e.on (by omega) (by omega)
                simp [Array.getD_eq_getD_getElem?, h3]
              rw [hr] at this
              cases this
        exact fun j hj => all (j + 1) j (by omega) hj
      · have hil := key i hi
        obtain ⟨h1, o, ho, h2⟩ := mem_ready.1 hi
        have ho' : (l ++ zs)[i]? = some o := by simpa using ho
        have hol : l[i]? = some o := by rwa [List.getElem?_append_left hil] at ho'
        have hlt : i < listed.size := by simp at hn; omega
        have h5 : listed[i] = false := by
          simpa [Array.getD_eq_getD_getElem?, Array.getElem?_eq_getElem hlt] using h1
        have hwz : ∀ q ∈ waits md o, listed[q]? = some true := fun q hq => by
          simp only [waits, List.mem_map, List.mem_filter] at hq
          obtain ⟨e, ⟨he, hb⟩, rfl⟩ := hq
          have h6 := h2 e (by simpa using he) hb
          rw [Array.getD_eq_getD_getElem?] at h6
          cases h7 : listed[e.on]? with
          | none => rw [h7] at h6; cases h6
          | some b => rw [h7] at h6; simp at h6; rw [h6]
        have hlow : ∀ q ∈ waits md o, q < l.length := fun q hq => by
          simp only [topoB, List.all_eq_true, List.mem_range] at hT
          have g1 := hT i (by simp; omega)
          rw [ho'] at g1
          simp only [List.all_eq_true, decide_eq_true_eq] at g1
          have := g1 q hq
          omega
        have hst := parStepsF_at hS hol x w' hf (holds_of fun j hj => hv _ (hlow j hj) (hwz j hj))
        refine wpOp_step ho fun K' hK => hst K' fun v w'' hf2 hv2 hn2 => ?_
        rw [fill_put hA hol]
        have keepk : ∀ k, listed[k]? = some true → (listed.setIfInBounds i true)[k]? = some true := fun k h => by
          rw [Array.getElem?_setIfInBounds]
          by_cases e : i = k
          · rw [if_pos e, if_pos (e ▸ hlt)]
          · rw [if_neg e]; exact h
        refine hK _ _ (ih _ _ _ (by simpa using hn) (fun j hj hj2 => ?_) (fun j p hp hj k hk => ?_) ?_ (hf.tr hf2) (fun j hjl hj => ?_) fun i' j' hi' hj' hli hlj hne hF1 hF2 b c hb hc => ?_)
        · rw [Array.getElem?_setIfInBounds, if_neg (by omega)]; exact hlast j hj hj2
        · by_cases e : i = j
          · subst e
            rw [ho'] at hp
            cases hp
            exact keepk k (hwz k hk)
          · rw [Array.getElem?_setIfInBounds, if_neg e] at hj
            exact keepk k (hdc j p hp hj k hk)
        · have := count_set listed.toList i (by simpa using hlt) (by simpa using h5)
          simp only [Array.toList_setIfInBounds]
          omega
        · by_cases e : i = j
          · subst e; simp only [upd, if_true]; simpa using hv2
          · rw [Array.getElem?_setIfInBounds, if_neg e] at hj
            simp only [upd, if_neg (Ne.symm e)]
            exact hV j _ _ _ hjl hf2 (hv j hjl hj)
        · rw [Nat.zero_add] at hn2
          by_cases e1 : i = i'
          · subst e1
            simp only [upd, if_true] at hb
            have e2 : ¬ i = j' := hne
            rw [Array.getElem?_setIfInBounds, if_neg e2] at hlj
            simp only [upd, if_neg (Ne.symm e2)] at hc
            have h1 := hn2 hF1 b hb
            have h2 := hO j' w' _ hj' hF2 (hv j' hj' hlj) c hc
            omega
          · rw [Array.getElem?_setIfInBounds, if_neg e1] at hli
            simp only [upd, if_neg (Ne.symm e1)] at hb
            by_cases e2 : i = j'
            · subst e2
              simp only [upd, if_true] at hc
              have h1 := hn2 hF2 c hc
              have h2 := hO i' w' _ hi' hF1 (hv i' hi' hli) b hb
              omega
            · rw [Array.getElem?_setIfInBounds, if_neg e2] at hlj
              simp only [upd, if_neg (Ne.symm e2)] at hc
              exact hap i' j' hi' hj' hli hlj hne hF1 hF2 b c hb hc

def parStepsAF (Fs : List Nat) (P : Program) (md : Region.Mode) (l : List Oper) (Q : Exit → Act → World → Prop) (L : List Nat) (V : Nat → World → Value → Prop) (t : Array Value) (w : World) : List Oper → Nat → Prop
  | [], _ => True
  | o :: r, i => (∀ (a : Act) (w' : World), Fr L w w' → (∀ k, (l.all fun o => o.dst != some k) = true → a.tmps.getD k undef = t.getD k undef) → holdsA V w' a l (waits md o) → ∀ K : Act → World → Prop, Shut (∀ v w'', Fr L w' w'' → V i w'' v → NewP Fs i w'.heap.size v → K (a.put o.dst v) w'') →
      if Region.wanted o (yielded l.toArray a.tmps) = true then o.wp P a w' K Q else K (a.put o.dst undef) w') ∧
    parStepsAF Fs P md l Q L V t w r (i + 1)

theorem parStepsF_of {Fs : List Nat} {P : Program} {md : Region.Mode} {l zs : List Oper} {Q : Exit → Act → World → Prop} {L : List Nat} {V : Nat → World → Value → Prop} {t : Array Value} {df : List Deferred} {w : World} (hA : apartB l = true) (hT : topoB md (l ++ zs) = true) (hsz : (l.all fun o => match o.dst with | some d => decide (d < t.size) | none => true) = true) :
    ∀ {r : List Oper} {k : Nat}, l.drop k = r → parStepsAF Fs P md (l ++ zs) Q L V t w r k → parStepsF Fs P md (l ++ zs) l Q L V t df w r k
  | [], _, _, _ => trivial
  | o :: r, k, hr, h => by
    have hk : l[k]? = some o := by
      have : (l.drop k)[0]? = some o := by rw [hr]; rfl
      simpa using this
    have hkl : k < l.length := (List.getElem?_eq_some_iff.1 hk).1
    refine ⟨fun x w' hf hp K hK => h.1 _ w' hf (fun j hj => by
      rw [Array.getD_eq_getD_getElem?, Array.getD_eq_getD_getElem?, fill_keep l 0 x t j (fun i o' ho' he => by
        simp only [List.all_eq_true, bne_iff_ne, ne_eq] at hj
        exact hj o' (List.mem_append_left _ (List.mem_of_getElem? ho')) he)]) (holdsA_ofT hA hsz (fun i hi => ?_) hp) K hK, parStepsF_of hA hT hsz (by rw [← List.drop_drop, hr]; rfl) h.2⟩
    simp only [topoB, List.all_eq_true, List.mem_range] at hT
    have g1 := hT k (by simp; omega)
    rw [List.getElem?_append_left hkl, hk] at g1
    simp only [List.all_eq_true, decide_eq_true_eq] at g1
    have := g1 i hi
    omega

/-- **Operations in any order, then a row of operations each of which comes alone.** -/
theorem wp_region_keepsF {P : Program} {id : Nat} {Q : Exit → Act → World → Prop} {t : Array Value} {df : List Deferred} {w : World} {all : List Oper} (L Fs : List Nat) (Vs : List (World → Value → Prop)) (n : Nat) (hn : decide (n ≤ all.length) = true) (hm : P.follows .mixedOrders = true)
    (hA : apartB (all.take n) = true) (hT : topoB .any all = true) (hsz : ((all.take n).all fun o => match o.dst with | some d => decide (d < t.size) | none => true) = true) (hW : tailB .any all n = true) (hV : KeepsAll L Vs) (hO : ∀ i, i ∈ Fs → ∀ w v, nth Vs i w v → OldP w v) (hS : parStepsAF Fs P .any all Q L (nth Vs) t w (all.take n) 0)
    (hD : ∀ x w', Fr L w w' → holds (nth Vs) w' x (List.range n) → AptP Fs n x → wpList P all.toArray Q (all.drop n) { tmps := fill (all.take n) 0 x t, defers := df } w') :
    (Code.region id all.toArray true).wp P Q { tmps := t, defers := df } w := by
  have e : all = all.take n ++ all.drop n := (List.take_append_drop n all).symm
  have hl : (all.take n).length = n := by simp at hn ⊢; omega
  refine wp_region_any hm ?_
  generalize hlz : all.take n = l at *
  generalize all.drop n = zs at *
  subst e
  subst hl
  have hS' := parStepsF_of (df := df) hA hT hsz (k := 0) (by simp) hS
  have h := wpAny_parF (V := nth Vs) hA hT hW (fun i _ _ _ _ hf h => hV.nth i _ _ _ hf h) (fun i w v _ hc h => hO i (by simpa using hc) w v h) hS' hD (l ++ zs).toArray.size (Array.replicate (l ++ zs).toArray.size false) (fun i => ((l[i]?).bind (·.dst)).elim undef fun d => t.getD d undef) { w with drawn := w.drawn + 1 } (by simp) (fun i _ hi => by simp at hi; simp [Array.getElem?_replicate, hi]) (fun j o _ hj => by rw [Array.getElem?_replicate] at hj; split at hj <;> cases hj)
    (by simp) ((Fr.refl L w).drewN 1) (fun i _ hi => by rw [Array.getElem?_replicate] at hi; split at hi <;> cases hi) (fun i j _ _ hi => by rw [Array.getElem?_replicate] at hi; split at hi <;> cases hi)
  rw [fill_id] at h
  · exact h
  · intro i o d ho hd
    rw [Nat.zero_add, ho]
    simp [hd]
end Go.Proofs.YtneggoonlmmjeaaGreat
namespace Go.Proofs.YtneggoonlmmjeaaGreat
open Go.RowKit
set_option linter.unusedVariables false
set_option linter.unusedSimpArgs false
set_option maxRecDepth 100000

/-- An entry. -/
structure IE where
  k : Int
  v : Value
  born : Nat
def IE.e (x : IE) : MapEntry := ⟨.int .i64 x.k, x.v, x.born⟩
abbrev ents (l : List IE) : Array MapEntry := (l.map IE.e).toArray
def get (l : List IE) (n : Int) : Option Value := (l.find? (·.k == n)).map (·.v)

theorem findNow_int (n : Int) : ∀ (l : List IE) (i : Nat), Instr.findNow (.int .i64) (.int .i64 n) (l.map IE.e) i = some (((l.findIdx? (·.k == n)).map (· + i)).bind fun j => (l[j - i]?).map fun x => (j, x.v))
  | [], i => rfl
  | x :: l, i => by
    have ih := findNow_int n l (i + 1)
    show (match Instr.sameNow (.int .i64) (.int .i64 n) (.int .i64 x.k) with | some true => some (some (i, x.v)) | some false => Instr.findNow (.int .i64) (.int .i64 n) (l.map IE.e) (i + 1) | none => none) = _
    by_cases h : x.k = n
    · have : Instr.sameNow (.int .i64) (.int .i64 n) (.int .i64 x.k) = some true := by simp [Instr.sameNow, h]
      rw [this]
      simp [List.findIdx?_cons, h]
    · have : Instr.sameNow (.int .i64) (.int .i64 n) (.int .i64 x.k) = some false := by simp [Instr.sameNow]; exact fun e => h e.symm
      rw [this]
      dsimp only
      rw [ih]
      have hb : (x.k == n) = false := by simpa using h
      simp only [List.findIdx?_cons, hb, Bool.false_eq_true, if_false]
      cases hf : l.findIdx? (·.k == n) with
      | none => simp
      | some j =>
        simp only [Option.map_some, Option.bind_some]
        rw [show j + 1 + i - i = j + 1 by omega, show j + (i + 1) - (i + 1) = j by omega, List.getElem?_cons_succ, show j + 1 + i = j + (i + 1) by omega]

theorem getI_eq (l : List IE) (n : Int) : get l n = ((l.findIdx? (·.k == n)).bind fun j => (l[j]?).map (·.v)) := by
  unfold get
  induction l with
  | nil => rfl
  | cons x l ih =>
    simp only [List.find?_cons, List.findIdx?_cons]
    by_cases hx : (x.k == n) = true
    · simp [hx]
    · simp only [hx, Bool.false_eq_true, if_false]
      rw [ih]
      cases l.findIdx? (·.k == n) <;> simp

section
open Go.ChangeMaps Go.MapKept
variable {P : Program} {w : World} {b : Nat} {l : List IE} {clock : Nat} {t k e : TypeId}

theorem run_checkInt (hk : P.underlying k = some (.int .i64)) (em : Bool) (n : Int) : (Instr.checkKey em 10000 k (.int .i64 n)).run P w = .ok () w := by
  show (Instr.checkKey em (9999 + 1) k (.int .i64 n)).run P w = .ok () w
  unfold Instr.checkKey
  simp [run_underlying hk, Result.andThen, Sem.run_bind]

theorem run_findInt (hk : P.underlying k = some (.int .i64)) (n : Int) : (Instr.findKey k (.int .i64 n) (ents l).toList).run P w = .ok ((l.findIdx? (·.k == n)).bind fun j => (l[j]?).map fun x => (j, x.v)) w := by
  have h := findNow_int n l 0
  simp only [Nat.add_zero, Nat.sub_zero, Option.map_id_fun', id_eq] at h
  unfold Instr.findKey
  simp only [run_underlying hk, Result.andThen, Sem.run_bind, ents, h]
  rfl

theorem im_lookup (h : w.heap[b]? = some (.map (ents l) clock)) (ht : P.underlying t = some (.map k e)) (hk : P.underlying k = some (.int .i64)) {z : Value} (hz : (zeroValue e).run P w = .ok z w) (n : Int) (ok : Bool) :
    (Instr.lookup t (.map (some b)) (.int .i64 n) ok).run P w = .ok (if ok then .tuple #[(get l n).getD z, .bool (get l n).isSome] else (get l n).getD z) w := by
  have hf := run_findInt (P := P) (w := w) (l := l) hk n
  rw [getI_eq]
  cases hi : l.findIdx? (·.k == n) with
  | none =>
    rw [hi] at hf
    simp only [Option.bind_none] at hf ⊢
    simp [Instr.lookup, run_underlying ht, MapKept.run_getObj_map h, run_checkInt hk, hf, hz, Result.andThen]
  | some j =>
    rw [hi] at hf
    have hj : j < l.length := by
      have := List.findIdx?_eq_some_iff_findIdx_eq.1 hi
      exact this.1
    simp only [Option.bind_some, List.getElem?_eq_getElem hj, Option.map_some] at hf ⊢
    simp [Instr.lookup, run_underlying ht, MapKept.run_getObj_map h, run_checkInt hk, hf, Result.andThen]

theorem im_lookup_nil (ht : P.underlying t = some (.map k e)) (hk : P.underlying k = some (.int .i64)) {z : Value} (hz : (zeroValue e).run P w = .ok z w) (n : Int) (ok : Bool) :
    (Instr.lookup t (.map none) (.int .i64 n) ok).run P w = .ok (if ok then .tuple #[z, .bool false] else z) w := by
  have hf := run_findInt (P := P) (w := w) (l := []) hk n
  simp only [List.findIdx?_nil, Option.bind_none, ents, List.map_nil] at hf
  simp [Instr.lookup, run_underlying ht, run_checkInt hk, hf, hz, Result.andThen]

theorem im_push (h : w.heap[b]? = some (.map (ents l) clock)) (ht : P.underlying t = some (.map k e)) (hk : P.underlying k = some (.int .i64)) (n : Int) (v : Value) (hn : get l n = none) :
    (Instr.mapUpdate t (.map (some b)) (.int .i64 n) v).run P w = .ok () (setBlock w b (.map (ents (l ++ [⟨n, v, clock⟩])) (clock + 1))) := by
  have hf := run_findInt (P := P) (w := w) (l := l) hk n
  rw [getI_eq] at hn
  have hi : l.findIdx? (·.k == n) = none := by
    cases hi : l.findIdx? (·.k == n) with
    | none => rfl
    | some j =>
      rw [hi] at hn
      have hj : j < l.length := (List.findIdx?_eq_some_iff_findIdx_eq.1 hi).1
      simp [List.getElem?_eq_getElem hj] at hn
  rw [hi] at hf
  simp only [Option.bind_none] at hf
  simp [Instr.mapUpdate, run_underlying ht, MapKept.run_getObj_map h, run_checkInt hk, hf, MapKept.run_setObj_map _ h, Result.andThen, setBlock, ents, IE.e]

theorem im_delete (h : w.heap[b]? = some (.map (ents l) clock)) (ht : P.underlying t = some (.map k e)) (hk : P.underlying k = some (.int .i64)) (hd : (l.map (·.k)).Nodup) (n : Int) (ty : TypeId) :
    (Builtin.delete_ #[t, k] ty #[.map (some b), .int .i64 n]).run P w = .ok (.tuple #[]) (setBlock w b (.map (ents (l.filter (·.k != n))) clock)) := by
  have hf := run_findInt (P := P) (w := w) (l := l) hk n
  cases hi : l.findIdx? (·.k == n) with
  | none =>
    rw [hi] at hf
    simp only [Option.bind_none] at hf
    have hfl : l.filter (·.k != n) = l := by
      rw [List.filter_eq_self]
      intro x hx
      rw [List.findIdx?_eq_none_iff] at hi
      have := hi x hx
      simpa using this
    rw [hfl]
    simp [Builtin.delete_, run_underlying ht, MapKept.run_getObj_map h, run_checkInt hk, hf, MapKept.run_setObj_map _ h, Result.andThen, setBlock]
  | some j =>
    rw [hi] at hf
    obtain ⟨hj, hj2⟩ := List.findIdx?_eq_some_iff_findIdx_eq.1 hi
    simp only [Option.bind_some, List.getElem?_eq_getElem hj, Option.map_some] at hf
    have hkj : l[j].k = n := by
      have := List.findIdx_getElem (xs := l) (p := (·.k == n)) (w := by rw [hj2]; exact hj)
      simp only [hj2] at this
      simpa using this
    have hfl : l.filter (·.k != n) = l.eraseIdx j := by
      have key : ∀ (l : List IE) (j : Nat) (hj : j < l.length), (l.map (·.k)).Nodup → l[j].k = n → l.filter (·.k != n) = l.eraseIdx j := by
        intro l
        induction l with
        | nil => intro j hj; simp at hj
        | cons x l ih =>
          intro j hj hd hk
          rw [List.map_cons, List.nodup_cons] at hd
          cases j with
          | zero =>
            simp only [List.getElem_cons_zero] at hk
            rw [List.eraseIdx_cons_zero, List.filter_cons, if_neg (by simp [hk]), List.filter_eq_self]
            intro y hy
            simp only [bne_iff_ne, ne_eq]
            exact fun e => hd.1 (by rw [hk, ← e]; exact List.mem_map_of_mem hy)
          | succ j =>
            have hj' : j < l.length := by simpa using hj
            simp only [List.getElem_cons_succ] at hk
            have hx : (x.k != n) = true := by
              simp only [bne_iff_ne, ne_eq]
              exact fun e => hd.1 (by rw [e, ← hk]; exact List.mem_map_of_mem (List.getElem_mem hj'))
            rw [List.eraseIdx_cons_succ, List.filter_cons, if_pos hx, ih j hj' hd.2 hk]
      exact key l j hj hd hkj
    rw [hfl]
    have he : (ents l).eraseIdxIfInBounds j = ents (l.eraseIdx j) := by
      have : j < (ents l).size := by simpa [ents] using hj
      simp only [Array.eraseIdxIfInBounds, this, dif_pos]
      apply Array.ext'
      simp [ents, map_eraseIdx]
    simp [Builtin.delete_, run_underlying ht, MapKept.run_getObj_map h, run_checkInt hk, hf, MapKept.run_setObj_map _ h, Result.andThen, setBlock, ents, map_eraseIdx]

theorem im_len (h : w.heap[b]? = some (.map (ents l) clock)) (ht : P.underlying t = some (.map k e)) (ty : TypeId) : (Builtin.len_ #[t] ty #[.map (some b)]).run P w = .ok (.int .i64 l.length) w := by
  simp [Builtin.len_, run_underlying ht, MapKept.run_getObj_map h, Result.andThen, ents, goInt]
end
end Go.Proofs.YtneggoonlmmjeaaGreat
namespace Go.Proofs.YtneggoonlmmjeaaGreat
open Go.RowKit
set_option linter.unusedVariables false
set_option linter.unusedSimpArgs false
set_option maxRecDepth 100000

theorem get_mod (n m : Int) (v : Value) : ∀ (l : List IE) (j : Nat), l.findIdx? (·.k == n) = some j → get (l.modify j fun x => ⟨n, v, x.born⟩) m = if m = n then some v else get l m
  | [], j, h => by simp at h
  | x :: r, j, h => by
    by_cases hx : x.k = n
    · have hj : j = 0 := by
        rw [List.findIdx?_cons] at h
        simp [hx] at h
        exact h.symm
      subst hj
      by_cases hm : m = n
      · subst hm
        simp [get]
      · have h1 : (n == m) = false := by simp; omega
        have h2 : (x.k == m) = false := by rw [hx]; exact h1
        simp [get, hm, h1, h2, List.find?_cons]
    · have hx' : (x.k == n) = false := by simpa using hx
      rw [List.findIdx?_cons, hx'] at h
      simp only [Bool.false_eq_true, if_false, Option.map_eq_some_iff] at h
      obtain ⟨j', h1, rfl⟩ := h
      have ih := get_mod n m v r j' h1
      rw [List.modify_succ_cons]
      unfold get at ih ⊢
      rw [List.find?_cons, List.find?_cons]
      by_cases hm : x.k = m
      · have h3 : ¬ m = n := fun e => hx (hm.trans e)
        simp [hm, h3]
      · have h4 : (x.k == m) = false := by simpa using hm
        rw [h4]
        exact ih
theorem get_snoc (l : List IE) (n m : Int) (v : Value) (c : Nat) (h : get l n = none) : get (l ++ [⟨n, v, c⟩]) m = if m = n then some v else get l m := by
  unfold get at h ⊢
  rw [List.find?_append]
  by_cases hm : m = n
  · subst hm
    have h0 : l.find? (·.k == m) = none := by simpa using h
    simp [h0]
  · have h1 : (n == m) = false := by simp; omega
    simp [hm, h1]
open Go.ChangeMaps Go.MapKept
variable {P : Program} {w : World} {b clock : Nat} {l : List IE} {t k e : TypeId}
theorem im_put (h : w.heap[b]? = some (.map (ents l) clock)) (ht : P.underlying t = some (.map k e)) (hk : P.underlying k = some (.int .i64)) (n : Int) (v : Value) :
    ∃ l' clock', (Instr.mapUpdate t (.map (some b)) (.int .i64 n) v).run P w = .ok () (setBlock w b (.map (ents l') clock')) ∧ ∀ m, get l' m = if m = n then some v else get l m := by
  cases hi : l.findIdx? (·.k == n) with
  | none =>
    have hn : get l n = none := by rw [getI_eq, hi]; rfl
    exact ⟨_, _, im_push h ht hk n v hn, fun m => get_snoc l n m v clock hn⟩
  | some j =>
    have hf := run_findInt (P := P) (w := w) (l := l) hk n
    rw [hi] at hf
    have hj : j < l.length := (List.findIdx?_eq_some_iff_findIdx_eq.1 hi).1
    have hkj : l[j].k = n := by
      have := (List.findIdx?_eq_some_iff_getElem.1 hi).2.1
      simpa using this
    refine ⟨l.modify j fun x => ⟨n, v, x.born⟩, clock, ?_, fun m => get_mod n m v l j hi⟩
    simp only [Option.bind_some, List.getElem?_eq_getElem hj, Option.map_some] at hf
    have hst : (Instr.keyThatStays (IE.e l[j]).key (.int .i64 n)).run P w = .ok (.int .i64 n) w := by
      show (Instr.keyThatStays (.int .i64 l[j].k) (.int .i64 n)).run P w = .ok (.int .i64 n) w
      have hsb : Instr.sameBits 10000 (.int .i64 n) (.int .i64 n) = true := by show Instr.sameBits (9999 + 1) (.int .i64 n) (.int .i64 n) = true; simp [Instr.sameBits]
      rw [hkj]; simp [Instr.keyThatStays, hsb]
    have hms : (List.map IE.e l).modify j (fun e => { key := .int .i64 n, val := v, born := e.born }) = List.map IE.e (l.modify j fun x => ⟨n, v, x.born⟩) := by
      apply List.ext_getElem?
      intro q
      simp only [List.getElem?_modify, List.getElem?_map]
      by_cases hq : j = q
      · subst hq
        rw [List.getElem?_eq_getElem hj]
        simp
        rfl
      · simp [hq]
    simp [Instr.mapUpdate, run_underlying ht, MapKept.run_getObj_map h, run_checkInt hk, hf, MapKept.run_setObj_map _ h, Result.andThen, setBlock, hj, hst, MapKept.run_setObj_map _ h]
    rw [hms]
end Go.Proofs.YtneggoonlmmjeaaGreat
namespace Go.Proofs.YtneggoonlmmjeaaGreat
open Go.RowKit
set_option linter.unusedVariables false
set_option linter.unusedSimpArgs false
set_option maxRecDepth 100000
open Go.ChangeMaps Go.MapKept

def OnlyMap (w : World) (M y : Nat) : Prop := M ≤ y ∧ (∃ l c, w.heap[y]? = some (.map (ents l) c)) ∧ ∀ z l c, M ≤ z → w.heap[z]? = some (.map l c) → z = y
def NoMap (w : World) (M : Nat) : Prop := ∀ z l c, M ≤ z → w.heap[z]? ≠ some (.map l c)
/-- What an operation of such a region does: it comes to a value; it lays the map; it comes to the map; it puts a key; it lays a cell. -/
inductive MK where
  | val (x : Value)
  | mk
  | mv
  | ins (k : Int) (x : Value)
  | cell (cs : Array Value) (t : TypeId)
def MK.fact (M : Nat) : MK → World → Value → Prop
  | .val x => fun _ v => v = x
  | .mk => fun w v => ∃ y, v = .map (some y) ∧ OnlyMap w M y
  | .mv => fun w v => ∃ y, v = .map (some y) ∧ OnlyMap w M y
  | .ins k x => fun w _ => ∃ y l c, OnlyMap w M y ∧ w.heap[y]? = some (.map (ents l) c) ∧ get l k = some x
  | .cell cs t => fun w v => ∃ x, v = .pointer (some ⟨x, 0, none⟩) ∧ M ≤ x ∧ Blk w x cs t
def MK.step (M : Nat) : MK → World → World → Prop
  | .val _ => fun w w' => w' = w
  | .mk => fun w w' => w' = w.alloc (.map #[] 0) ∧ NoMap w M
  | .mv => fun w w' => w' = w
  | .ins k x => fun w w' => ∃ y l c l' c', OnlyMap w M y ∧ w.heap[y]? = some (.map (ents l) c) ∧ w' = setBlock w y (.map (ents l') c') ∧ ∀ m, get l' m = if m = k then some x else get l m
  | .cell cs t => fun w w' => w' = w.alloc (.cells cs t)
def MK.key : MK → Option Int
  | .ins k _ => some k
  | _ => none
def MK.bad : MK → Bool
  | .mk => true
  | _ => false
theorem setBlk_far {w : World} {b c : Nat} {o : Obj} (h : c ≠ b) : (setBlock w b o).heap[c]? = w.heap[c]? := by
  simp [setBlock, Array.getElem?_setIfInBounds, Ne.symm h]
theorem setBlk_same {w : World} {b : Nat} {o p : Obj} (h : w.heap[b]? = some p) : (setBlock w b o).heap[b]? = some o := by
  have := (Array.getElem?_eq_some_iff.1 h).1
  simp [setBlock, this]
theorem Fr.setBlk {L : List Nat} {a w : World} (h : Fr L a w) {b : Nat} (o : Obj) (hb : b ∈ L ∨ a.heap.size ≤ b) : Fr L a (setBlock w b o) :=
  h.trans (M := [b]) ⟨rfl, rfl, rfl, by simp [setBlock], fun k hk hn => setBlk_far (by simpa using hn)⟩ (fun x hx => by simp at hx; subst hx; exact hb)
theorem heap_alloc_some {w : World} {b : Nat} {o p : Obj} (h : w.heap[b]? = some p) : (w.alloc o).heap[b]? = some p := by
  have := (Array.getElem?_eq_some_iff.1 h).1
  show (w.heap.push o)[b]? = _
  rw [Array.getElem?_push]
  rw [if_neg (by omega)]
  exact h
theorem heap_alloc_at {w : World} {o p : Obj} {z : Nat} (h : (w.alloc o).heap[z]? = some p) : w.heap[z]? = some p ∨ p = o := by
  change (w.heap.push o)[z]? = some p at h
  rw [Array.getElem?_push] at h
  split at h
  · right; simpa using h.symm
  · exact .inl h
theorem OnlyMap.cell {w : World} {M y : Nat} (h : OnlyMap w M y) (cs : Array Value) (t : TypeId) : OnlyMap (w.alloc (.cells cs t)) M y := by
  obtain ⟨h1, ⟨l, c, h2⟩, h3⟩ := h
  refine ⟨h1, ⟨l, c, heap_alloc_some h2⟩, fun z l' c' hz e => ?_⟩
  rcases heap_alloc_at e with e | e
  · exact h3 z l' c' hz e
  · cases e
theorem OnlyMap.put {w : World} {M y : Nat} (h : OnlyMap w M y) (l' : List IE) (c' : Nat) : OnlyMap (setBlock w y (.map (ents l') c')) M y := by
  obtain ⟨h1, ⟨l, c, h2⟩, h3⟩ := h
  refine ⟨h1, ⟨l', c', setBlk_same h2⟩, fun z l0 c0 hz e => ?_⟩
  by_cases hzy : z = y
  · exact hzy
  · rw [setBlk_far hzy] at e
    exact h3 z l0 c0 hz e
theorem OnlyMap.new {w : World} {M : Nat} (h : NoMap w M) (hM : M ≤ w.heap.size) : OnlyMap (w.alloc (.map #[] 0)) M w.heap.size := by
  refine ⟨hM, ⟨[], 0, ?_⟩, fun z l c hz e => ?_⟩
  · show (w.heap.push _)[w.heap.size]? = _
    simp
  · by_cases hzs : z = w.heap.size
    · exact hzs
    · exfalso
      change (w.heap.push _)[z]? = _ at e
      rw [Array.getElem?_push, if_neg hzs] at e
      exact h z l c hz e
theorem OnlyMap.uniq {w : World} {M y z : Nat} (h : OnlyMap w M y) (h' : OnlyMap w M z) : z = y := by
  obtain ⟨h1, ⟨l, c, h2⟩, _⟩ := h'
  exact h.2.2 z _ c h1 h2
theorem ents_inj : ∀ (a b : List IE), ents a = ents b → a = b := by
  have inj : ∀ (a b : List IE), a.map IE.e = b.map IE.e → a = b := by
    intro a
    induction a with
    | nil => intro b hb; cases b with | nil => rfl | cons _ _ => simp at hb
    | cons x r ih =>
      intro b hb
      cases b with
      | nil => simp at hb
      | cons y q =>
        simp only [List.map_cons, List.cons.injEq] at hb
        have hxy : x = y := by
          have := hb.1
          cases x; cases y
          simp only [IE.e, MapEntry.mk.injEq, Value.int.injEq] at this
          simp [this]
        rw [hxy, ih q hb.2]
  intro a b e
  exact inj a b (by simpa [ents] using e)
/-- A fact outlives another operation's step. -/
theorem MK.keep {M : Nat} {i j : MK} {w w' : World} {v : Value} (hk : ∀ k, i.key = some k → j.key ≠ some k) (hs : j.step M w w') (h : i.fact M w v) : i.fact M w' v := by
  cases j with
  | val x => simp only [MK.step] at hs; subst hs; exact h
  | mv => simp only [MK.step] at hs; subst hs; exact h
  | mk =>
    simp only [MK.step] at hs
    obtain ⟨rfl, hn⟩ := hs
    have bad : ∀ {y}, OnlyMap w M y → False := fun ho => by obtain ⟨h1, ⟨l, c, h2⟩, _⟩ := ho; exact hn _ _ c h1 h2
    cases i with
    | val y => exact h
    | mk => obtain ⟨y, _, ho⟩ := h; exact (bad ho).elim
    | mv => obtain ⟨y, _, ho⟩ := h; exact (bad ho).elim
    | ins k y => obtain ⟨y, _, _, ho, _⟩ := h; exact (bad ho).elim
    | cell cs t => obtain ⟨x, h1, h2, h3⟩ := h; exact ⟨x, h1, h2, h3.alloc _⟩
  | cell cs t =>
    simp only [MK.step] at hs
    subst hs
    cases i with
    | val y => exact h
    | mk => obtain ⟨y, h1, ho⟩ := h; exact ⟨y, h1, ho.cell _ _⟩
    | mv => obtain ⟨y, h1, ho⟩ := h; exact ⟨y, h1, ho.cell _ _⟩
    | ins k y => obtain ⟨y, l, c, ho, h1, h2⟩ := h; exact ⟨y, l, c, ho.cell _ _, heap_alloc_some h1, h2⟩
    | cell cs t => obtain ⟨x, h1, h2, h3⟩ := h; exact ⟨x, h1, h2, h3.alloc _⟩
  | ins k x =>
    simp only [MK.step] at hs
    obtain ⟨y, l, c, l', c', ho, h1, rfl, h2⟩ := hs
    cases i with
    | val z => exact h
    | mk => obtain ⟨z, e, hz⟩ := h; obtain rfl := ho.uniq hz; exact ⟨z, e, ho.put _ _⟩
    | mv => obtain ⟨z, e, hz⟩ := h; obtain rfl := ho.uniq hz; exact ⟨z, e, ho.put _ _⟩
    | cell cs t =>
      obtain ⟨z, e1, e2, e3⟩ := h
      refine ⟨z, e1, e2, ?_⟩
      have hne : z ≠ y := fun e => by subst e; rw [Blk, h1] at e3; cases e3
      rw [Blk, setBlk_far hne]
      exact e3
    | ins k' z =>
      obtain ⟨y0, l0, c0, hz, h3, h4⟩ := h
      obtain rfl := ho.uniq hz
      rw [h1] at h3
      simp only [Option.some.injEq, Obj.map.injEq] at h3
      obtain rfl := ents_inj _ _ h3.1
      refine ⟨_, l', c', ho.put _ _, setBlk_same h1, ?_⟩
      rw [h2 k']
      have := hk k' rfl
      rw [if_neg (fun e => this (by rw [← e]; rfl))]
      exact h4
def keysB (ks : List MK) : Bool := (List.range ks.length).all fun i => (List.range ks.length).all fun j => i == j || (match (ks[i]?).bind MK.key with | some k => decide ((ks[j]?).bind MK.key ≠ some k) | none => true)
theorem wp_region_map {P : Program} {id : Nat} {Q : Exit → Act → World → Prop} {t : Array Value} {df : List Deferred} {w : World} {all : List Oper} (ks : List MK) (n : Nat) (hn : decide (n ≤ all.length) = true) (hm : P.follows .mixedOrders = true)
    (hA : apartB (all.take n) = true) (hT : topoB .any all = true) (hsz : ((all.take n).all fun o => match o.dst with | some d => decide (d < t.size) | none => true) = true) (hW : tailB .any all n = true)
    (hkl : decide (ks.length = n) = true) (hkk : keysB ks = true)
    (hS : parStepsBG (Fr []) (fun i => (ks.getD i (.val undef)).step w.heap.size) (earlyB .any all n fun k => (ks.getD k (.val undef)).bad) (fun w' => NoMap w' w.heap.size) P .any all Q (fun i => (ks.getD i (.val undef)).fact w.heap.size) t w (all.take n) 0)
    (hDead : deadB .any all n (fun _ _ => false) = true)
    (hD : ∀ x w', Fr [] w w' → holds (fun i => (ks.getD i (.val undef)).fact w.heap.size) w' x (live n (fun _ _ => false)) → wpList P all.toArray Q (all.drop n) { tmps := fill (all.take n) 0 x t, defers := df } w') :
    (Code.region id all.toArray true).wp P Q { tmps := t, defers := df } w := by
  refine wp_region_keepsGB (Fr []) (fun i => (ks.getD i (.val undef)).step w.heap.size) (fun k => (ks.getD k (.val undef)).bad) (fun w' => NoMap w' w.heap.size) (fun _ _ => false) (fun i => (ks.getD i (.val undef)).fact w.heap.size) n hn hm hA hT hsz hW ((Fr.refl _ w).drewN 1) ?_ ?_ hDead ?_ (fun z l c hz e => by have : z < w.heap.size := (Array.getElem?_eq_some_iff.1 e).1; omega) hS hD
  · intro i w' w'' hi hf hs
    cases hk : ks.getD i (.val undef) with
    | val x => rw [hk] at hs; simp only [MK.step] at hs; subst hs; exact hf
    | mv => rw [hk] at hs; simp only [MK.step] at hs; subst hs; exact hf
    | mk => rw [hk] at hs; obtain ⟨rfl, _⟩ := hs; exact hf.alloc _
    | cell cs t => rw [hk] at hs; simp only [MK.step] at hs; subst hs; exact hf.alloc _
    | ins k x => rw [hk] at hs; obtain ⟨y, l, c, l', c', ho, _, rfl, _⟩ := hs; exact hf.setBlk _ (.inr ho.1)
  · intro i j w' w'' v hi hj hij hd hb hnc hf hs hv
    refine MK.keep (fun k hk => ?_) hs hv
    simp only [keysB, List.all_eq_true, List.mem_range, Bool.or_eq_true, beq_iff_eq] at hkk
    simp only [decide_eq_true_eq] at hkl
    have h1 := (hkk i (by omega) j (by omega)).resolve_left hij
    have gi : ks[i]? = some (ks.getD i (.val undef)) := by rw [List.getD_eq_getElem?_getD, List.getElem?_eq_getElem (by omega)]; rfl
    have gj : ks[j]? = some (ks.getD j (.val undef)) := by rw [List.getD_eq_getElem?_getD, List.getElem?_eq_getElem (by omega)]; rfl
    rw [gi, gj] at h1
    simp only [Option.bind_some, hk, decide_eq_true_eq] at h1
    exact h1
  · intro i w' w'' hi hb hf hs h
    cases hk : ks.getD i (.val undef) with
    | val x => rw [hk] at hs; simp only [MK.step] at hs; subst hs; exact h
    | mv => rw [hk] at hs; simp only [MK.step] at hs; subst hs; exact h
    | mk => rw [hk] at hb; cases hb
    | cell cs t =>
      rw [hk] at hs
      simp only [MK.step] at hs
      subst hs
      intro z l c hz e
      rcases heap_alloc_at e with e | e
      · exact h z l c hz e
      · cases e
    | ins k x =>
      rw [hk] at hs
      obtain ⟨y, l, c, l', c', ho, h1, _, _⟩ := hs
      exact (h y _ c ho.1 h1).elim
end Go.Proofs.YtneggoonlmmjeaaGreat
namespace Go.Proofs.YtneggoonlmmjeaaGreat
open Go.RowKit Go.Shelf
set_option linter.unusedVariables false
set_option linter.unusedSimpArgs false
set_option maxRecDepth 100000

/-- How long each timer runs. -/
def ticksM (m : TM) (k : Int) : Int := if k = 29 then m.ca else if k = 30 then m.cp else if k = 31 then m.cr else m.cb
/-- A map of how long each timer runs. -/
def TickMap (w : World) (M : Nat) (m : TM) : Prop := ∃ l c, w.heap[M]? = some (.map (ents l) c) ∧ get l 29 = some (.int .i64 m.ca) ∧ get l 30 = some (.int .i64 m.cp) ∧ get l 31 = some (.int .i64 m.cr) ∧ get l 32 = some (.int .i64 m.cb)
theorem TickMap.fr {w w' : World} {M : Nat} {m : TM} {L : List Nat} (h : TickMap w M m) (f : Fr L w w') (hn : M ∉ L) : TickMap w' M m := by
  obtain ⟨l, c, h1, h2⟩ := h
  exact ⟨l, c, f.keeps h1 hn, h2⟩
theorem TickMap.of {w : World} {M N : Nat} {m : TM} (h0 : OnlyMap w N M) (h1 : ∃ y l c, OnlyMap w N y ∧ w.heap[y]? = some (.map (ents l) c) ∧ get l 29 = some (.int .i64 m.ca)) (h2 : ∃ y l c, OnlyMap w N y ∧ w.heap[y]? = some (.map (ents l) c) ∧ get l 30 = some (.int .i64 m.cp)) (h3 : ∃ y l c, OnlyMap w N y ∧ w.heap[y]? = some (.map (ents l) c) ∧ get l 31 = some (.int .i64 m.cr)) (h4 : ∃ y l c, OnlyMap w N y ∧ w.heap[y]? = some (.map (ents l) c) ∧ get l 32 = some (.int .i64 m.cb)) : TickMap w M m := by
  obtain ⟨l, c, e⟩ := h0.2.1
  have key : ∀ {k : Int} {x : Value}, (∃ y l c, OnlyMap w N y ∧ w.heap[y]? = some (.map (ents l) c) ∧ get l k = some x) → get l k = some x := by
    rintro k x ⟨y', l', c', ho, e', g'⟩
    obtain rfl := h0.uniq ho
    rw [e] at e'
    simp only [Option.some.injEq, Obj.map.injEq] at e'
    rw [ents_inj _ _ e'.1]
    exact g'
  exact ⟨l, c, e, key h1, key h2, key h3, key h4⟩

set_option maxRecDepth 100000 in
set_option maxHeartbeats 4000000 in
theorem tie_start (w : World) (v : TV) (m : TM) (k : Int) (h : IsTie w v m) :
    Calls Tryz.prog 152 #[.pointer (some ⟨v.t, 0, none⟩), .int .i64 k] w fun e w' => ∃ b0 b1 b2 M, e = .returned (.func (.func 199) #[] #[.pointer (some ⟨b0, 0, none⟩), .pointer (some ⟨b1, 0, none⟩), .pointer (some ⟨b2, 0, none⟩)]) ∧
      w'.cell? ⟨b0, 0, none⟩ = some (.pointer (some ⟨v.t, 0, none⟩)) ∧ w'.cell? ⟨b1, 0, none⟩ = some (.int .i64 k) ∧ w'.cell? ⟨b2, 0, none⟩ = some (.map (some M)) ∧ TickMap w' M m ∧ w.heap.size ≤ b0 ∧ w.heap.size ≤ b1 ∧ w.heap.size ≤ b2 ∧ w.heap.size ≤ M ∧ Fr [] w w' := by
  have hk := (Blk.new w #[.pointer (some ⟨v.t, 0, none⟩)] 26).alloc (.cells #[.int .i64 k] 3)
  have hk2 := Blk.new (w.alloc (.cells #[.pointer (some ⟨v.t, 0, none⟩)] 26)) #[.int .i64 k] 3
  rw [World.size_alloc] at hk2
  have f4 := ((Fr.refl [] w).alloc (.cells #[.pointer (some ⟨v.t, 0, none⟩)] 26)).alloc (.cells #[.int .i64 k] 3)
  have h4 := h.fr0 f4
  have hb0 : w.heap.size < ((w.alloc (.cells #[.pointer (some ⟨v.t, 0, none⟩)] 26)).alloc (.cells #[.int .i64 k] 3)).heap.size := hk.lt
  have hvt := h4.blk.lt
  clear h
  go_enter Tryz.func152, Tryz.ntmps152
  go_wp2
  obtain ⟨w4, hw4⟩ : ∃ w4, (w.alloc (.cells #[.pointer (some ⟨v.t, 0, none⟩)] 26)).alloc (.cells #[.int .i64 k] 3) = w4 := ⟨_, rfl⟩
  rw [hw4] at hk hk2 f4 h4 hb0 hvt
  simp only [hw4]
  obtain ⟨B2, hB2⟩ : ∃ B2, w.heap.size = B2 := ⟨_, rfl⟩
  simp only [hB2] at hk hk2 hb0
  simp only [hB2]
  have kB : ∀ wx, Fr [] w4 wx → wx.cell? ⟨B2, 0, none⟩ = some (.pointer (some ⟨v.t, 0, none⟩)) := fun wx hf => hf.cell (hk.cell 0 rfl) (by simp)
  have k2 : ∀ wx, Fr [] w4 wx → wx.cell? ⟨v.t, 2, none⟩ = some (.int .i64 m.ca) := fun wx hf => hf.cell h4.c2 (by simp)
  have k3 : ∀ wx, Fr [] w4 wx → wx.cell? ⟨v.t, 3, none⟩ = some (.int .i64 m.cp) := fun wx hf => hf.cell h4.c3 (by simp)
  have k4 : ∀ wx, Fr [] w4 wx → wx.cell? ⟨v.t, 4, none⟩ = some (.int .i64 m.cr) := fun wx hf => hf.cell h4.c4 (by simp)
  have k5 : ∀ wx, Fr [] w4 wx → wx.cell? ⟨v.t, 5, none⟩ = some (.int .i64 m.cb) := fun wx hf => hf.cell h4.c5 (by simp)
  have HK := Lib.hid (And.intro hk hk2)
  have F4 := Lib.hid f4
  have HB2 := Lib.hid hB2
  have HB0 := Lib.hid hb0
  clear hk hk2 f4 h4 hvt hb0 hB2 hw4
  refine wp_region_map [.mk, .val (.pointer (some ⟨v.t, 0, none⟩)), .val (.pointer (some ⟨v.t, 0, none⟩)), .val (.pointer (some ⟨v.t, 0, none⟩)), .val (.pointer (some ⟨v.t, 2, none⟩)), .val (.int .i64 m.ca), .ins 29 (.int .i64 m.ca), .val (.pointer (some ⟨v.t, 0, none⟩)), .val (.pointer (some ⟨v.t, 0, none⟩)), .val (.pointer (some ⟨v.t, 0, none⟩)), .val (.pointer (some ⟨v.t, 3, none⟩)), .val (.int .i64 m.cp), .ins 30 (.int .i64 m.cp), .val (.pointer (some ⟨v.t, 0, none⟩)), .val (.pointer (some ⟨v.t, 0, none⟩)), .val (.pointer (some ⟨v.t, 0, none⟩)), .val (.pointer (some ⟨v.t, 4, none⟩)), .val (.int .i64 m.cr), .ins 31 (.int .i64 m.cr), .val (.pointer (some ⟨v.t, 0, none⟩)), .val (.pointer (some ⟨v.t, 0, none⟩)), .val (.pointer (some ⟨v.t, 0, none⟩)), .val (.pointer (some ⟨v.t, 5, none⟩)), .val (.int .i64 m.cb), .ins 32 (.int .i64 m.cb), .mv, .cell #[.map none] 204] 27 (by kernel_rfl) (by kernel_rfl) (by kernel_rfl) (by kernel_rfl) (by kernel_rfl) (by kernel_rfl) (by kernel_rfl) (by kernel_rfl) ?hS (by kernel_rfl) ?hD
  case hS =>
    (repeat' (first | exact trivial | refine And.intro ?_ ?_))
    · intro ac wx hf hbs hs hp K hK
      clear hp
      clear hs
      have HNM := Lib.hid (hbs (by kernel_rfl))
      have HF := Lib.hid hf
      clear hbs hf
      have hmm := @run_makeMap Tryz.prog
      go_simp
      try dsimp only
      exact hK.out _ _ ⟨rfl, HNM.out⟩ ⟨_, rfl, OnlyMap.new HNM.out HF.out.size⟩
    · intro ac wx hf hbs hs hp K hK
      clear hp
      have hs2 := hs 2 (by kernel_rfl)
      simp only [Array.getD_eq_getD_getElem?, List.getElem?_toArray, List.getElem?_cons_succ, List.getElem?_cons_zero, Option.getD_some] at hs2
      clear hs
      have cx := kB wx hf
      clear hf hbs
      skip
      go_simp
      try dsimp only
      exact hK.out _ _ rfl rfl
    · intro ac wx hf hbs hs hp K hK
      simp only [waits, holdsB, MK.fact, List.getD_cons_zero, List.getD_cons_succ, exists_const, List.filter_cons, List.filter_nil, List.map_cons, List.map_nil, Region.binds, if_true, true_and, and_true, Nat.reduceAdd, List.getElem?_cons_zero, List.getElem?_cons_succ, Option.bind_some, Array.getD_eq_getD_getElem?] at hp
      clear hs
      clear hf hbs
      (try simp only [hp])
      go_simp
      try dsimp only
      exact hK.out _ _ rfl rfl
    · intro ac wx hf hbs hs hp K hK
      simp only [waits, holdsB, MK.fact, List.getD_cons_zero, List.getD_cons_succ, exists_const, List.filter_cons, List.filter_nil, List.map_cons, List.map_nil, Region.binds, if_true, true_and, and_true, Nat.reduceAdd, List.getElem?_cons_zero, List.getElem?_cons_succ, Option.bind_some, Array.getD_eq_getD_getElem?] at hp
      clear hs
      clear hf hbs
      (try simp only [hp])
      go_simp
      try dsimp only
      exact hK.out _ _ rfl rfl
    · intro ac wx hf hbs hs hp K hK
      simp only [waits, holdsB, MK.fact, List.getD_cons_zero, List.getD_cons_succ, exists_const, List.filter_cons, List.filter_nil, List.map_cons, List.map_nil, Region.binds, if_true, true_and, and_true, Nat.reduceAdd, List.getElem?_cons_zero, List.getElem?_cons_succ, Option.bind_some, Array.getD_eq_getD_getElem?] at hp
      clear hs
      clear hf hbs
      (try simp only [hp])
      go_simp
      try dsimp only
      exact hK.out _ _ rfl rfl
    · intro ac wx hf hbs hs hp K hK
      simp only [waits, holdsB, MK.fact, List.getD_cons_zero, List.getD_cons_succ, exists_const, List.filter_cons, List.filter_nil, List.map_cons, List.map_nil, Region.binds, if_true, true_and, and_true, Nat.reduceAdd, List.getElem?_cons_zero, List.getElem?_cons_succ, Option.bind_some, Array.getD_eq_getD_getElem?] at hp
      clear hs
      have cx := k2 wx hf
      clear hf hbs
      (try simp only [hp])
      go_simp
      try dsimp only
      exact hK.out _ _ rfl rfl
    · intro ac wx hf hbs hs hp K hK
      simp only [waits, holdsB, MK.fact, List.getD_cons_zero, List.getD_cons_succ, exists_const, List.filter_cons, List.filter_nil, List.map_cons, List.map_nil, Region.binds, if_true, true_and, and_true, Nat.reduceAdd, List.getElem?_cons_zero, List.getElem?_cons_succ, Option.bind_some, Array.getD_eq_getD_getElem?] at hp
      clear hs
      obtain ⟨h0, hv⟩ := hp
      clear hbs hf
      obtain ⟨y, e0, hy⟩ := h0
      obtain ⟨l, c, hmap⟩ := hy.2.1
      have HY := Lib.hid hy
      clear hy
      obtain ⟨l', c', hrun, hget⟩ := im_put (P := Tryz.prog) hmap Tryz.underlying204 Tryz.underlying3 29 (.int .i64 m.ca)
      have HM := Lib.hid hmap
      have HG := Lib.hid hget
      clear hmap hget
      (try simp only [e0, hv])
      go_simp
      try dsimp only
      refine hK.out (.tuple #[]) _ ⟨y, l, c, l', c', HY.out, HM.out, rfl, HG.out⟩ ⟨y, l', c', HY.out.put _ _, setBlk_same HM.out, by rw [HG.out]; simp⟩
    · intro ac wx hf hbs hs hp K hK
      clear hp
      have hs2 := hs 2 (by kernel_rfl)
      simp only [Array.getD_eq_getD_getElem?, List.getElem?_toArray, List.getElem?_cons_succ, List.getElem?_cons_zero, Option.getD_some] at hs2
      clear hs
      have cx := kB wx hf
      clear hf hbs
      skip
      go_simp
      try dsimp only
      exact hK.out _ _ rfl rfl
    · intro ac wx hf hbs hs hp K hK
      simp only [waits, holdsB, MK.fact, List.getD_cons_zero, List.getD_cons_succ, exists_const, List.filter_cons, List.filter_nil, List.map_cons, List.map_nil, Region.binds, if_true, true_and, and_true, Nat.reduceAdd, List.getElem?_cons_zero, List.getElem?_cons_succ, Option.bind_some, Array.getD_eq_getD_getElem?] at hp
      clear hs
      clear hf hbs
      (try simp only [hp])
      go_simp
      try dsimp only
      exact hK.out _ _ rfl rfl
    · intro ac wx hf hbs hs hp K hK
      simp only [waits, holdsB, MK.fact, List.getD_cons_zero, List.getD_cons_succ, exists_const, List.filter_cons, List.filter_nil, List.map_cons, List.map_nil, Region.binds, if_true, true_and, and_true, Nat.reduceAdd, List.getElem?_cons_zero, List.getElem?_cons_succ, Option.bind_some, Array.getD_eq_getD_getElem?] at hp
      clear hs
      clear hf hbs
      (try simp only [hp])
      go_simp
      try dsimp only
      exact hK.out _ _ rfl rfl
    · intro ac wx hf hbs hs hp K hK
      simp only [waits, holdsB, MK.fact, List.getD_cons_zero, List.getD_cons_succ, exists_const, List.filter_cons, List.filter_nil, List.map_cons, List.map_nil, Region.binds, if_true, true_and, and_true, Nat.reduceAdd, List.getElem?_cons_zero, List.getElem?_cons_succ, Option.bind_some, Array.getD_eq_getD_getElem?] at hp
      clear hs
      clear hf hbs
      (try simp only [hp])
      go_simp
      try dsimp only
      exact hK.out _ _ rfl rfl
    · intro ac wx hf hbs hs hp K hK
      simp only [waits, holdsB, MK.fact, List.getD_cons_zero, List.getD_cons_succ, exists_const, List.filter_cons, List.filter_nil, List.map_cons, List.map_nil, Region.binds, if_true, true_and, and_true, Nat.reduceAdd, List.getElem?_cons_zero, List.getElem?_cons_succ, Option.bind_some, Array.getD_eq_getD_getElem?] at hp
      clear hs
      have cx := k3 wx hf
      clear hf hbs
      (try simp only [hp])
      go_simp
      try dsimp only
      exact hK.out _ _ rfl rfl
    · intro ac wx hf hbs hs hp K hK
      simp only [waits, holdsB, MK.fact, List.getD_cons_zero, List.getD_cons_succ, exists_const, List.filter_cons, List.filter_nil, List.map_cons, List.map_nil, Region.binds, if_true, true_and, and_true, Nat.reduceAdd, List.getElem?_cons_zero, List.getElem?_cons_succ, Option.bind_some, Array.getD_eq_getD_getElem?] at hp
      clear hs
      obtain ⟨h0, hv⟩ := hp
      clear hbs hf
      obtain ⟨y, e0, hy⟩ := h0
      obtain ⟨l, c, hmap⟩ := hy.2.1
      have HY := Lib.hid hy
      clear hy
      obtain ⟨l', c', hrun, hget⟩ := im_put (P := Tryz.prog) hmap Tryz.underlying204 Tryz.underlying3 30 (.int .i64 m.cp)
      have HM := Lib.hid hmap
      have HG := Lib.hid hget
      clear hmap hget
      (try simp only [e0, hv])
      go_simp
      try dsimp only
      refine hK.out (.tuple #[]) _ ⟨y, l, c, l', c', HY.out, HM.out, rfl, HG.out⟩ ⟨y, l', c', HY.out.put _ _, setBlk_same HM.out, by rw [HG.out]; simp⟩
    · intro ac wx hf hbs hs hp K hK
      clear hp
      have hs2 := hs 2 (by kernel_rfl)
      simp only [Array.getD_eq_getD_getElem?, List.getElem?_toArray, List.getElem?_cons_succ, List.getElem?_cons_zero, Option.getD_some] at hs2
      clear hs
      have cx := kB wx hf
      clear hf hbs
      skip
      go_simp
      try dsimp only
      exact hK.out _ _ rfl rfl
    · intro ac wx hf hbs hs hp K hK
      simp only [waits, holdsB, MK.fact, List.getD_cons_zero, List.getD_cons_succ, exists_const, List.filter_cons, List.filter_nil, List.map_cons, List.map_nil, Region.binds, if_true, true_and, and_true, Nat.reduceAdd, List.getElem?_cons_zero, List.getElem?_cons_succ, Option.bind_some, Array.getD_eq_getD_getElem?] at hp
      clear hs
      clear hf hbs
      (try simp only [hp])
      go_simp
      try dsimp only
      exact hK.out _ _ rfl rfl
    · intro ac wx hf hbs hs hp K hK
      simp only [waits, holdsB, MK.fact, List.getD_cons_zero, List.getD_cons_succ, exists_const, List.filter_cons, List.filter_nil, List.map_cons, List.map_nil, Region.binds, if_true, true_and, and_true, Nat.reduceAdd, List.getElem?_cons_zero, List.getElem?_cons_succ, Option.bind_some, Array.getD_eq_getD_getElem?] at hp
      clear hs
      clear hf hbs
      (try simp only [hp])
      go_simp
      try dsimp only
      exact hK.out _ _ rfl rfl
    · intro ac wx hf hbs hs hp K hK
      simp only [waits, holdsB, MK.fact, List.getD_cons_zero, List.getD_cons_succ, exists_const, List.filter_cons, List.filter_nil, List.map_cons, List.map_nil, Region.binds, if_true, true_and, and_true, Nat.reduceAdd, List.getElem?_cons_zero, List.getElem?_cons_succ, Option.bind_some, Array.getD_eq_getD_getElem?] at hp
      clear hs
      clear hf hbs
      (try simp only [hp])
      go_simp
      try dsimp only
      exact hK.out _ _ rfl rfl
    · intro ac wx hf hbs hs hp K hK
      simp only [waits, holdsB, MK.fact, List.getD_cons_zero, List.getD_cons_succ, exists_const, List.filter_cons, List.filter_nil, List.map_cons, List.map_nil, Region.binds, if_true, true_and, and_true, Nat.reduceAdd, List.getElem?_cons_zero, List.getElem?_cons_succ, Option.bind_some, Array.getD_eq_getD_getElem?] at hp
      clear hs
      have cx := k4 wx hf
      clear hf hbs
      (try simp only [hp])
      go_simp
      try dsimp only
      exact hK.out _ _ rfl rfl
    · intro ac wx hf hbs hs hp K hK
      simp only [waits, holdsB, MK.fact, List.getD_cons_zero, List.getD_cons_succ, exists_const, List.filter_cons, List.filter_nil, List.map_cons, List.map_nil, Region.binds, if_true, true_and, and_true, Nat.reduceAdd, List.getElem?_cons_zero, List.getElem?_cons_succ, Option.bind_some, Array.getD_eq_getD_getElem?] at hp
      clear hs
      obtain ⟨h0, hv⟩ := hp
      clear hbs hf
      obtain ⟨y, e0, hy⟩ := h0
      obtain ⟨l, c, hmap⟩ := hy.2.1
      have HY := Lib.hid hy
      clear hy
      obtain ⟨l', c', hrun, hget⟩ := im_put (P := Tryz.prog) hmap Tryz.underlying204 Tryz.underlying3 31 (.int .i64 m.cr)
      have HM := Lib.hid hmap
      have HG := Lib.hid hget
      clear hmap hget
      (try simp only [e0, hv])
      go_simp
      try dsimp only
      refine hK.out (.tuple #[]) _ ⟨y, l, c, l', c', HY.out, HM.out, rfl, HG.out⟩ ⟨y, l', c', HY.out.put _ _, setBlk_same HM.out, by rw [HG.out]; simp⟩
    · intro ac wx hf hbs hs hp K hK
      clear hp
      have hs2 := hs 2 (by kernel_rfl)
      simp only [Array.getD_eq_getD_getElem?, List.getElem?_toArray, List.getElem?_cons_succ, List.getElem?_cons_zero, Option.getD_some] at hs2
      clear hs
      have cx := kB wx hf
      clear hf hbs
      skip
      go_simp
      try dsimp only
      exact hK.out _ _ rfl rfl
    · intro ac wx hf hbs hs hp K hK
      simp only [waits, holdsB, MK.fact, List.getD_cons_zero, List.getD_cons_succ, exists_const, List.filter_cons, List.filter_nil, List.map_cons, List.map_nil, Region.binds, if_true, true_and, and_true, Nat.reduceAdd, List.getElem?_cons_zero, List.getElem?_cons_succ, Option.bind_some, Array.getD_eq_getD_getElem?] at hp
      clear hs
      clear hf hbs
      (try simp only [hp])
      go_simp
      try dsimp only
      exact hK.out _ _ rfl rfl
    · intro ac wx hf hbs hs hp K hK
      simp only [waits, holdsB, MK.fact, List.getD_cons_zero, List.getD_cons_succ, exists_const, List.filter_cons, List.filter_nil, List.map_cons, List.map_nil, Region.binds, if_true, true_and, and_true, Nat.reduceAdd, List.getElem?_cons_zero, List.getElem?_cons_succ, Option.bind_some, Array.getD_eq_getD_getElem?] at hp
      clear hs
      clear hf hbs
      (try simp only [hp])
      go_simp
      try dsimp only
      exact hK.out _ _ rfl rfl
    · intro ac wx hf hbs hs hp K hK
      simp only [waits, holdsB, MK.fact, List.getD_cons_zero, List.getD_cons_succ, exists_const, List.filter_cons, List.filter_nil, List.map_cons, List.map_nil, Region.binds, if_true, true_and, and_true, Nat.reduceAdd, List.getElem?_cons_zero, List.getElem?_cons_succ, Option.bind_some, Array.getD_eq_getD_getElem?] at hp
      clear hs
      clear hf hbs
      (try simp only [hp])
      go_simp
      try dsimp only
      exact hK.out _ _ rfl rfl
    · intro ac wx hf hbs hs hp K hK
      simp only [waits, holdsB, MK.fact, List.getD_cons_zero, List.getD_cons_succ, exists_const, List.filter_cons, List.filter_nil, List.map_cons, List.map_nil, Region.binds, if_true, true_and, and_true, Nat.reduceAdd, List.getElem?_cons_zero, List.getElem?_cons_succ, Option.bind_some, Array.getD_eq_getD_getElem?] at hp
      clear hs
      have cx := k5 wx hf
      clear hf hbs
      (try simp only [hp])
      go_simp
      try dsimp only
      exact hK.out _ _ rfl rfl
    · intro ac wx hf hbs hs hp K hK
      simp only [waits, holdsB, MK.fact, List.getD_cons_zero, List.getD_cons_succ, exists_const, List.filter_cons, List.filter_nil, List.map_cons, List.map_nil, Region.binds, if_true, true_and, and_true, Nat.reduceAdd, List.getElem?_cons_zero, List.getElem?_cons_succ, Option.bind_some, Array.getD_eq_getD_getElem?] at hp
      clear hs
      obtain ⟨h0, hv⟩ := hp
      clear hbs hf
      obtain ⟨y, e0, hy⟩ := h0
      obtain ⟨l, c, hmap⟩ := hy.2.1
      have HY := Lib.hid hy
      clear hy
      obtain ⟨l', c', hrun, hget⟩ := im_put (P := Tryz.prog) hmap Tryz.underlying204 Tryz.underlying3 32 (.int .i64 m.cb)
      have HM := Lib.hid hmap
      have HG := Lib.hid hget
      clear hmap hget
      (try simp only [e0, hv])
      go_simp
      try dsimp only
      refine hK.out (.tuple #[]) _ ⟨y, l, c, l', c', HY.out, HM.out, rfl, HG.out⟩ ⟨y, l', c', HY.out.put _ _, setBlk_same HM.out, by rw [HG.out]; simp⟩
    · intro ac wx hf hbs hs hp K hK
      simp only [waits, holdsB, MK.fact, List.getD_cons_zero, List.getD_cons_succ, exists_const, List.filter_cons, List.filter_nil, List.map_cons, List.map_nil, Region.binds, if_true, true_and, and_true, Nat.reduceAdd, List.getElem?_cons_zero, List.getElem?_cons_succ, Option.bind_some, Array.getD_eq_getD_getElem?] at hp
      clear hs
      clear hbs hf
      have h0 := hp.1
      clear hp
      obtain ⟨y, e0, hy⟩ := h0
      have HY := Lib.hid hy
      clear hy
      (try simp only [e0])
      go_simp
      try dsimp only
      exact hK.out _ _ rfl ⟨y, rfl, HY.out⟩
    · intro ac wx hf hbs hs hp K hK
      clear hp
      clear hs
      have HF := Lib.hid hf
      clear hbs hf
      go_simp
      try dsimp only
      exact hK.out _ _ rfl ⟨_, rfl, HF.out.size, Blk.new _ _ _⟩
  case hD =>
    intro xv wx hf hp
    simp only [List.take_succ_cons, List.take_zero, List.drop_succ_cons, List.drop_zero, fill, List.setIfInBounds_toArray, List.set_cons_zero, List.set_cons_succ, Nat.reduceAdd, Act.put]
    rw [show live 27 (fun _ _ => false) = [0, 1, 2, 3, 4, 5, 6, 7, 8, 9, 10, 11, 12, 13, 14, 15, 16, 17, 18, 19, 20, 21, 22, 23, 24, 25, 26] from by decide] at hp
    simp only [holds, MK.fact, List.getD_cons_zero, List.getD_cons_succ, true_and, and_true] at hp
    obtain ⟨p0, p1, p2, p3, p4, p5, p6, p7, p8, p9, p10, p11, p12, p13, p14, p15, p16, p17, p18, p19, p20, p21, p22, p23, p24, p25, p26⟩ := hp
    obtain ⟨M, e25, hM⟩ := p25
    obtain ⟨b2, e26, hb2, hB⟩ := p26
    have hT := TickMap.of (m := m) hM p6 p12 p18 p24
    have z5 := hB.free 0
    have c5 : wx.cell? ⟨b2, 0, none⟩ = some (.map none) := hB.cell 0 rfl
    have fs : Fr [b2] wx (wx.setCell ⟨b2, 0, none⟩ (.map (some M))) := (Fr.refl [b2] wx).setCell _ (.inl (by simp))
    have hMb : M ≠ b2 := fun e => by obtain ⟨l, c, e2⟩ := hM.2.1; rw [Blk, ← e, e2] at hB; cases hB
    have hT2 := hT.fr fs (by simp [hMb])
    have hset : Blk (wx.setCell ⟨b2, 0, none⟩ (.map (some M))) b2 #[.map (some M)] 204 := Blk.set hB 0 _ rfl
    have F5 : Fr [] w4 (wx.setCell ⟨b2, 0, none⟩ (.map (some M))) := hf.setCell _ (.inr hb2)
    have HFIN := Lib.hid (And.intro hT2 (And.intro (hset.cell 0 rfl) (And.intro F5 (And.intro hb2 hM.1))))
    simp only [e25, e26]
    clear p0 p1 p2 p3 p4 p5 p6 p7 p8 p9 p10 p11 p12 p13 p14 p15 p16 p17 p18 p19 p20 p21 p22 p23 p24 e25 e26 hM hB hT fs hMb hT2 hset F5 kB k2 k3 k4 k5 hf
    go_wp2
    go_ret
    obtain ⟨h1, h2, h3, h4, h5⟩ := HFIN.out
    have hs4 := F4.out.size
    rw [HB2.out] at hs4
    refine ⟨B2, B2 + 1, b2, M, rfl, h3.cell (HK.out.1.cell 0 rfl) (by simp), h3.cell (HK.out.2.cell 0 rfl) (by simp), h2, h1, ?_, ?_, ?_, ?_, F4.out.tr h3⟩
    · rw [HB2.out]; exact Nat.le_refl _
    · rw [HB2.out]; omega
    · rw [HB2.out]; omega
    · rw [HB2.out]; omega

end Go.Proofs.YtneggoonlmmjeaaGreat
namespace Go.Proofs.YtneggoonlmmjeaaGreat
open Go.RowKit Go.Shelf
set_option linter.unusedVariables false
set_option linter.unusedSimpArgs false
set_option maxRecDepth 100000

def startM (m : TM) (k : Int) : TM := { m with tm := tstop m.tm k ++ [(k, ticksM m k)] }
theorem TickMap.get {w : World} {M : Nat} {m : TM} (h : TickMap w M m) {k : Int} (h0 : 29 ≤ k) (h1 : k ≤ 32) : ∃ l c, w.heap[M]? = some (.map (ents l) c) ∧ Go.Proofs.YtneggoonlmmjeaaGreat.get l k = some (.int .i64 (ticksM m k)) := by
  obtain ⟨l, c, e, g1, g2, g3, g4⟩ := h
  refine ⟨l, c, e, ?_⟩
  obtain rfl | rfl | rfl | rfl : k = 29 ∨ k = 30 ∨ k = 31 ∨ k = 32 := by omega
  · exact g1
  · exact g2
  · exact g3
  · exact g4
set_option maxHeartbeats 1000000 in
theorem tie_start1 (w : World) (v : TV) (m : TM) (k : Int) (b0 b1 b2 M : Nat) (h : IsTie w v m) (h0 : w.cell? ⟨b0, 0, none⟩ = some (.pointer (some ⟨v.t, 0, none⟩))) (h1 : w.cell? ⟨b1, 0, none⟩ = some (.int .i64 k)) (h2 : w.cell? ⟨b2, 0, none⟩ = some (.map (some M))) (hM : TickMap w M m)
    (hk0 : 29 ≤ k) (hk1 : k ≤ 32) (hl : m.tm.length ≤ 1000) (ht1 : 1 ≤ ticksM m k) (ht2 : ticksM m k ≤ 10000) (hroom : tidx m.tm k < 0 → (m.tm.length : Int) < 4) :
    Calls Tryz.prog 199 #[.pointer (some ⟨b0, 0, none⟩), .pointer (some ⟨b1, 0, none⟩), .pointer (some ⟨b2, 0, none⟩)] w fun e w' => e = .returned (.tuple #[]) ∧ TieTo w w' v (startM m k) := by
  have kL : ∀ wx, Fr [] w wx → (Instr.lookup 204 (.map (some M)) (.int .i64 k) false).run Tryz.prog wx = .ok (.int .i64 (ticksM m k)) wx := by
    intro wx hf
    obtain ⟨l, c, hmap, hget⟩ := (hM.fr hf (by simp)).get hk0 hk1
    have hlk := im_lookup (P := Tryz.prog) (w := wx) hmap Tryz.underlying204 Tryz.underlying3 (z := .int .i64 0) (by kernel_rfl) k false
    rw [hget] at hlk
    simpa using hlk
  have k0 : ∀ wx, Fr [] w wx → wx.cell? ⟨b0, 0, none⟩ = some (.pointer (some ⟨v.t, 0, none⟩)) := fun wx hf => hf.cell h0 (by simp)
  have k1 : ∀ wx, Fr [] w wx → wx.cell? ⟨b1, 0, none⟩ = some (.int .i64 k) := fun wx hf => hf.cell h1 (by simp)
  have k2 : ∀ wx, Fr [] w wx → wx.cell? ⟨b2, 0, none⟩ = some (.map (some M)) := fun wx hf => hf.cell h2 (by simp)
  have k15 : ∀ wx, Fr [] w wx → wx.cell? ⟨v.t, 15, none⟩ = some (.pointer (some ⟨v.c, 0, none⟩)) := fun wx hf => hf.cell h.c15 (by simp)
  have H := Lib.hid h
  clear h hM h0 h1 h2
  go_enter Tryz.func199, Tryz.ntmps199
  go_wp2
  refine wp_region_keepsC [] [false, false, false, false, false, false, false, false] [none, none, none, none, none, none, none, none] (fun _ => True) [Is (.pointer (some ⟨v.t, 0, none⟩)), Is (.pointer (some ⟨v.t, 0, none⟩)), Is (.pointer (some ⟨v.t, 15, none⟩)), Is (.pointer (some ⟨v.c, 0, none⟩)), Is (.int .i64 k), Is (.map (some M)), Is (.int .i64 k), Is (.int .i64 (ticksM m k))] 8 (by kernel_rfl) (by kernel_rfl) (by kernel_rfl) (by kernel_rfl) (by kernel_rfl) (by kernel_rfl) (by kernel_rfl) (by kernel_rfl) ?hV (fun _ _ _ h => h) trivial ?hS ?hD
  case hV =>
    repeat (first | exact trivial | exact Is.keepsN _ | exact Any.keepsN | refine And.intro ?_ ?_)
  case hS =>
    (repeat' (first | exact trivial | refine And.intro ?_ ?_))
    · intro ac wx hf hbs hs hp K hK
      simp only [zA, Region.binds, Nat.reduceAdd] at hp
      have hs0 := hs 0 (by kernel_rfl)
      simp only [Array.getD_eq_getD_getElem?, List.getElem?_toArray, List.getElem?_cons_succ, List.getElem?_cons_zero, Option.getD_some] at hs0
      clear hs
      clear hbs
      clear hp
      have cx := k0 wx hf
      clear hf
      go_simp
      try dsimp only
      refine hK.out _ _ ?_ ?_
      · change Fr [] _ _
        (repeat (first | with_reducible (first | exact Fr.refl _ _ | assumption | refine Fr.drew ?_ | refine Fr.drewN ?_ _ | refine Fr.alloc ?_ _ | refine Fr.setL ?_ _ _ _ ?_) | (left; simp; done) | (right; first | (simp; done) | (simp; omega) | omega)); done)
      · simp only [nth]
        first | (unfold Is; rfl) | (unfold Any; exact trivial) | exact IsSl.new _ _ _ _ | assumption
    · intro ac wx hf hbs hs hp K hK
      simp only [zA, Region.binds, Nat.reduceAdd] at hp
      clear hs
      clear hbs
      have h0 := hp
      clear hp
      clear hf
      (try simp only [h0])
      go_simp
      try dsimp only
      refine hK.out _ _ ?_ ?_
      · change Fr [] _ _
        (repeat (first | with_reducible (first | exact Fr.refl _ _ | assumption | refine Fr.drew ?_ | refine Fr.drewN ?_ _ | refine Fr.alloc ?_ _ | refine Fr.setL ?_ _ _ _ ?_) | (left; simp; done) | (right; first | (simp; done) | (simp; omega) | omega)); done)
      · simp only [nth]
        first | (unfold Is; rfl) | (unfold Any; exact trivial) | exact IsSl.new _ _ _ _ | assumption
    · intro ac wx hf hbs hs hp K hK
      simp only [zA, Region.binds, Nat.reduceAdd] at hp
      clear hs
      clear hbs
      have h1 := hp
      clear hp
      clear hf
      (try simp only [h1])
      go_simp
      try dsimp only
      refine hK.out _ _ ?_ ?_
      · change Fr [] _ _
        (repeat (first | with_reducible (first | exact Fr.refl _ _ | assumption | refine Fr.drew ?_ | refine Fr.drewN ?_ _ | refine Fr.alloc ?_ _ | refine Fr.setL ?_ _ _ _ ?_) | (left; simp; done) | (right; first | (simp; done) | (simp; omega) | omega)); done)
      · simp only [nth]
        first | (unfold Is; rfl) | (unfold Any; exact trivial) | exact IsSl.new _ _ _ _ | assumption
    · intro ac wx hf hbs hs hp K hK
      simp only [zA, Region.binds, Nat.reduceAdd] at hp
      clear hs
      clear hbs
      have h2 := hp
      clear hp
      have cx := k15 wx hf
      clear hf
      (try simp only [h2])
      go_simp
      try dsimp only
      refine hK.out _ _ ?_ ?_
      · change Fr [] _ _
        (repeat (first | with_reducible (first | exact Fr.refl _ _ | assumption | refine Fr.drew ?_ | refine Fr.drewN ?_ _ | refine Fr.alloc ?_ _ | refine Fr.setL ?_ _ _ _ ?_) | (left; simp; done) | (right; first | (simp; done) | (simp; omega) | omega)); done)
      · simp only [nth]
        first | (unfold Is; rfl) | (unfold Any; exact trivial) | exact IsSl.new _ _ _ _ | assumption
    · intro ac wx hf hbs hs hp K hK
      simp only [zA, Region.binds, Nat.reduceAdd] at hp
      have hs1 := hs 1 (by kernel_rfl)
      simp only [Array.getD_eq_getD_getElem?, List.getElem?_toArray, List.getElem?_cons_succ, List.getElem?_cons_zero, Option.getD_some] at hs1
      clear hs
      clear hbs
      clear hp
      have cx := k1 wx hf
      clear hf
      go_simp
      try dsimp only
      refine hK.out _ _ ?_ ?_
      · change Fr [] _ _
        (repeat (first | with_reducible (first | exact Fr.refl _ _ | assumption | refine Fr.drew ?_ | refine Fr.drewN ?_ _ | refine Fr.alloc ?_ _ | refine Fr.setL ?_ _ _ _ ?_) | (left; simp; done) | (right; first | (simp; done) | (simp; omega) | omega)); done)
      · simp only [nth]
        first | (unfold Is; rfl) | (unfold Any; exact trivial) | exact IsSl.new _ _ _ _ | assumption
    · intro ac wx hf hbs hs hp K hK
      simp only [zA, Region.binds, Nat.reduceAdd] at hp
      have hs2 := hs 2 (by kernel_rfl)
      simp only [Array.getD_eq_getD_getElem?, List.getElem?_toArray, List.getElem?_cons_succ, List.getElem?_cons_zero, Option.getD_some] at hs2
      clear hs
      clear hbs
      clear hp
      have cx := k2 wx hf
      clear hf
      go_simp
      try dsimp only
      refine hK.out _ _ ?_ ?_
      · change Fr [] _ _
        (repeat (first | with_reducible (first | exact Fr.refl _ _ | assumption | refine Fr.drew ?_ | refine Fr.drewN ?_ _ | refine Fr.alloc ?_ _ | refine Fr.setL ?_ _ _ _ ?_) | (left; simp; done) | (right; first | (simp; done) | (simp; omega) | omega)); done)
      · simp only [nth]
        first | (unfold Is; rfl) | (unfold Any; exact trivial) | exact IsSl.new _ _ _ _ | assumption
    · intro ac wx hf hbs hs hp K hK
      simp only [zA, Region.binds, Nat.reduceAdd] at hp
      have hs1 := hs 1 (by kernel_rfl)
      simp only [Array.getD_eq_getD_getElem?, List.getElem?_toArray, List.getElem?_cons_succ, List.getElem?_cons_zero, Option.getD_some] at hs1
      clear hs
      clear hbs
      clear hp
      have cx := k1 wx hf
      clear hf
      go_simp
      try dsimp only
      refine hK.out _ _ ?_ ?_
      · change Fr [] _ _
        (repeat (first | with_reducible (first | exact Fr.refl _ _ | assumption | refine Fr.drew ?_ | refine Fr.drewN ?_ _ | refine Fr.alloc ?_ _ | refine Fr.setL ?_ _ _ _ ?_) | (left; simp; done) | (right; first | (simp; done) | (simp; omega) | omega)); done)
      · simp only [nth]
        first | (unfold Is; rfl) | (unfold Any; exact trivial) | exact IsSl.new _ _ _ _ | assumption
    · intro ac wx hf hbs hs hp K hK
      simp only [zA, Region.binds, Nat.reduceAdd] at hp
      clear hs
      clear hbs
      obtain ⟨h5, h6⟩ := hp
      have hlk := kL wx hf
      clear hf
      (try simp only [h5, h6])
      go_simp
      try dsimp only
      refine hK.out _ _ ?_ ?_
      · change Fr [] _ _
        (repeat (first | with_reducible (first | exact Fr.refl _ _ | assumption | refine Fr.drew ?_ | refine Fr.drewN ?_ _ | refine Fr.alloc ?_ _ | refine Fr.setL ?_ _ _ _ ?_) | (left; simp; done) | (right; first | (simp; done) | (simp; omega) | omega)); done)
      · simp only [nth]
        first | (unfold Is; rfl) | (unfold Any; exact trivial) | exact IsSl.new _ _ _ _ | assumption
  case hD =>
    intro xv wx hf hp
    simp only [List.take_succ_cons, List.take_zero, List.drop_succ_cons, List.drop_zero, fill, List.setIfInBounds_toArray, List.set_cons_zero, List.set_cons_succ, Nat.reduceAdd, Act.put]
    rw [show live 8 (deadC [none, none, none, none, none, none, none, none]) = [0, 1, 2, 3, 4, 5, 6, 7] from by decide] at hp
    simp only [holds, nth, Is, Any, true_and, and_true] at hp
    obtain ⟨p0, p1, p2, p3, p4, p5, p6, p7⟩ := hp
    have Hx := Lib.hid (H.out.fr0 hf)
    have Fx := Lib.hid hf
    simp only [p3, p4, p7]
    clear p0 p1 p2 p3 p4 p5 p6 p7 k0 k1 k2 k15 kL hf
    go_wp2_with fail
    refine (clk_Start _ v.c v.cl 4 v.now m.tm k (ticksM m k) Hx.out.clk hl ht1 ht2 hroom).mono ?_
    rintro e w2 ⟨rfl, hc⟩
    have HFIN := Lib.hid (TieTo.trans (Fx.out.mono (by simp)) (fun x hx => .inl hx) rfl rfl (Hx.out.setClk hc))
    clear hc
    go_wp2
    go_end0
    exact ⟨rfl, HFIN.out⟩

end Go.Proofs.YtneggoonlmmjeaaGreat
namespace Go.Proofs.YtneggoonlmmjeaaGreat
open Go.RowKit Go.Shelf
set_option linter.unusedVariables false
set_option linter.unusedSimpArgs false
set_option maxRecDepth 100000

theorem isnil_t (A : Addr) (n c : Nat) (w : World) : (binOp BinOp.eql 151 (Value.slice (some A) n c) (Value.slice none 0 0)).run Tryz.prog w = .ok (.bool false) w := by kernel_rfl
theorem isnil_t0 (w : World) : (binOp BinOp.eql 151 (Value.slice none 0 0) (Value.slice none 0 0)).run Tryz.prog w = .ok (.bool true) w := by kernel_rfl
attribute [local go_sem] isnil_t isnil_t0 Oper.semAt_some
theorem tim_Clone (w : World) (b : Nat) (s : Sl) (most now : Int) (l : TL) (h : IsClk w b s most now l) (hl : l.length ≤ 1000) :
    Calls Tryz.prog 229 #[.slice s.A s.n s.c] w fun e w' => ∃ s' : Sl, e = .returned (.slice s'.A s'.n s'.c) ∧ NewRow w w' 158 2 s' l.length (tflat l) ∧ Fr [] w w' := by
  obtain ⟨i0, hi0, hz0, hz1, hz2⟩ := tim_info
  have hun : Tryz.prog.underlying 151 = some (.slice 158) := Tryz.underlying151
  obtain ⟨hlen, hown⟩ := h.own
  rcases hown with ⟨ev, e0⟩ | ⟨g, cap, cur, ev, _, hb, hcap, hmax, hsz, hx⟩
  · obtain ⟨A, n, c⟩ := s
    simp only [Sl.v, Value.slice.injEq] at ev
    obtain ⟨rfl, rfl, rfl⟩ := ev
    have hl0 : l = [] := List.eq_nil_of_length_eq_zero e0
    subst hl0
    clear h hlen
    go_enter Tryz.func229, Tryz.ntmps229
    go_wp2
    go_ret
    exact ⟨Sl.nil, rfl, NewRow.nil _ _ _ _, Fr.refl _ _⟩
  · obtain ⟨A, n, c⟩ := s
    simp only [Sl.v, Value.slice.injEq] at ev
    obtain ⟨rfl, rfl, rfl⟩ := ev
    have hsr : Src l.length (tflat l) (w.alloc (.cells #[] 158)) (.slice (some ⟨g, 0, none⟩) l.length c) := .inr ⟨⟨g, 0, none⟩, c, rfl, fun j u hj => by
      rw [Go.WideShapes.add_plain, Nat.zero_add]
      have hb' : Blk w g cur 158 := hb
      refine (hb'.alloc _).cell j ?_
      have hjl : j < l.length * 2 := by
        have := (List.getElem?_eq_some_iff.1 hj).1
        rwa [tflat_len] at this
      rw [← hx, List.getElem?_take, if_pos hjl] at hj
      rw [← Array.getElem?_toList]
      exact hj⟩
    have ho : (w.alloc (.cells #[] 158)).ownsRow 0 158 2 (Sl.v ⟨some ⟨w.heap.size, 0, none⟩, 0, 0⟩) 0 [] := World.ownsRow_made _ #[] 0 (Nat.zero_le _) (Nat.zero_le _) rfl
    have hone : ∀ u ∈ tflat l, u.oneCell' = true := by
      intro u hu
      obtain ⟨x, _, hx⟩ := List.mem_flatMap.1 hu
      simp only [tcell, List.mem_cons, List.not_mem_nil, or_false] at hx
      rcases hx with rfl | rfl <;> rfl
    have HSR := Lib.hid hsr
    have HO := Lib.hid ho
    have HONE := Lib.hid hone
    clear h hlen hb hcap hmax hsz hx hsr ho hone
    go_enter Tryz.func229, Tryz.ntmps229
    go_wp2_with (at_builtin; refine wpList_push rfl _ _ 151 rfl 158 i0 (.agg #[.int .i64 0, .int .i64 0]) 2 16 hun hi0 hz0 hz1 hz2 rfl (by decide) ⟨some ⟨w.heap.size, 0, none⟩, 0, 0⟩ 0 [] rfl HO.out (.slice (some ⟨g, 0, none⟩) l.length c) l.length (tflat l) rfl HSR.out (tflat_len l) HONE.out (by unfold maxLen; omega) (by omega) ?_)
    intro s' w3 hp
    have hsz := ((Fr.refl [] w).alloc (.cells #[] 158)).size
    have hnew : ∀ x ∈ s'.blk, w.heap.size ≤ x := fun x hx => by
      rcases hp.2.2 x hx with h1 | h1
      · simp [Sl.blk] at h1; omega
      · omega
    have hfr : Fr [] w w3 := ((Fr.refl [] w).alloc (.cells #[] 158)).trans hp.2.1 (fun x hx => .inr (by simp [Sl.blk] at hx; omega))
    have hro : NewRow w w3 158 2 s' l.length (tflat l) := ⟨by have := hp.1; simpa using this, hnew⟩
    have HFIN := Lib.hid (And.intro hro hfr)
    clear hp hsz hnew hfr hro
    go_wp2
    go_ret
    exact ⟨s', rfl, HFIN.out.1, HFIN.out.2⟩

theorem clk_Each (w : World) (b : Nat) (s : Sl) (most now : Int) (l : TL) (h : IsClk w b s most now l) (hl : l.length ≤ 1000) :
    Calls Tryz.prog 197 #[.pointer (some ⟨b, 0, none⟩)] w fun e w' => ∃ q, ∃ s' : Sl, e = .returned (.func (.func 230) #[] #[.pointer (some ⟨q, 0, none⟩)]) ∧ Blk w' q #[.slice s'.A s'.n s'.c] 151 ∧ NewRow w w' 158 2 s' l.length (tflat l) ∧ w.heap.size ≤ q ∧ Fr [] w w' := by
  have hq := Blk.new w #[.slice none 0 0] 151
  have f1 := (Fr.refl [] w).alloc (.cells #[.slice none 0 0] 151)
  have h1 := h.fr f1 (by simp)
  have c2 : (w.alloc (.cells #[.slice none 0 0] 151)).cell? ⟨b, 2, none⟩ = some (.slice s.A s.n s.c) := h1.head.cell 2 rfl
  have H1 := Lib.hid h1
  have F1 := Lib.hid f1
  have HQ : Hid (Blk (w.alloc (.cells #[.slice none 0 0] 151)) w.heap.size #[.slice none 0 0] 151) := Lib.hid hq
  clear h h1 f1 hq
  go_enter Tryz.func197, Tryz.ntmps197
  go_wp2_with fail
  refine (tim_Clone _ b s most now l H1.out hl).mono ?_
  rintro e w2 ⟨s', rfl, hn, f2⟩
  have hq2 : Blk w2 w.heap.size #[.slice none 0 0] 151 := HQ.out.fr f2 (by simp)
  have cq : w2.cell? ⟨w.heap.size, 0, none⟩ = some (.slice none 0 0) := hq2.cell 0 rfl
  have zq := hq2.free 0
  have hset : Blk (w2.setCell ⟨w.heap.size, 0, none⟩ (.slice s'.A s'.n s'.c)) w.heap.size #[.slice s'.A s'.n s'.c] 151 := Blk.set hq2 0 _ rfl
  have fs : Fr [] w (w2.setCell ⟨w.heap.size, 0, none⟩ (.slice s'.A s'.n s'.c)) := (F1.out.tr f2).setCell _ (.inr (Nat.le_refl _))
  have hqn : ∀ x ∈ s'.blk, x ≠ w.heap.size := fun x hx e => by
    have := hn.new x hx
    rw [World.size_alloc] at this
    omega
  have hro : NewRow w (w2.setCell ⟨w.heap.size, 0, none⟩ (.slice s'.A s'.n s'.c)) 158 2 s' l.length (tflat l) := by
    refine ⟨⟨hn.own.1, hn.own.2.imp id ?_⟩, fun x hx => by have := hn.new x hx; rw [World.size_alloc] at this; omega⟩
    rintro ⟨g, cap, cur, e, hg, hb', r⟩
    exact ⟨g, cap, cur, e, hg, (Blk.far (t := 158) hb' (p := ⟨w.heap.size, 0, none⟩) (hqn g (blk_mem e)) _ : Blk _ _ _ _), r⟩
  have HFIN := Lib.hid (And.intro hset (And.intro hro fs))
  clear hn f2 hq2 hset fs hqn hro
  go_wp2
  go_ret
  exact ⟨_, s', rfl, HFIN.out.1, HFIN.out.2.1, Nat.le_refl _, HFIN.out.2.2⟩

/-- What the iterator finds. -/
structure TCore (q : Nat) (s : Sl) (l : TL) (W : World) : Prop where
  cell : Blk W q #[.slice s.A s.n s.c] 151
  own : W.ownsRow 0 158 2 s.v l.length (tflat l)
theorem TCore.at_ {q : Nat} {s : Sl} {l : TL} {w : World} (h : TCore q s l w) (i : Nat) (hi : i < l.length) : ∃ g, s.A = some ⟨g, 0, none⟩ ∧ w.cell? ⟨g, i * 2, none⟩ = some (.int .i64 l[i].1) ∧ w.cell? ⟨g, i * 2 + 1, none⟩ = some (.int .i64 l[i].2) := by
  obtain ⟨g, hg, hc⟩ := own_at h.own (by omega)
  have hq := fun j hj => flat_get tcell 2 (fun _ => rfl) l i j hi hj
  exact ⟨g, hg, hc _ _ (by have := hq 0 (by omega); simpa [tflat, tcell] using this), hc _ _ (by have := hq 1 (by omega); simpa [tflat, tcell] using this)⟩
set_option maxHeartbeats 2000000 in
theorem tim_iter (q : Nat) (s : Sl) (l : TL) (hl : l.length ≤ 1000) (lb : Nat) (J : Nat → World → Prop) (hJ : ∀ k W, J k W → TCore q s l W) (hd : ∀ k W W', J k W → Fr [] W W' → J k W')
    (hY : ∀ k W, J k W → k < l.length → YieldAt Fence.wide 0 Tryz.prog lb #[.int .i64 (l[k]?.getD (0, 0)).1, .int .i64 (l[k]?.getD (0, 0)).2] W fun e W' => e = .returned (.bool true) ∧ J (k + 1) W' ∧ True) (W : World) (h0 : J 0 W) :
    CallsIn Fence.wide 0 Tryz.prog 230 #[.func (.yield lb) #[] #[], .pointer (some ⟨q, 0, none⟩)] W fun e W' => (∃ v, e = .returned v) ∧ ∃ k, ¬ k < l.length ∧ J k W' := by
  have hh := hJ _ _ h0
  have hn := own_n hh.own
  have c0 : W.cell? ⟨q, 0, none⟩ = some (.slice s.A s.n s.c) := hh.cell.cell 0 rfl
  obtain ⟨A, n, c⟩ := s
  simp only at hn c0
  subst hn
  clear hh
  refine callsIn_of_wp Tryz.func230 rfl trivial ?_ rfl
  simp only [Tryz.ntmps230, List.size_toArray, List.length_cons, List.length_nil, Nat.reduceAdd, Nat.reduceSub, Array.replicate_succ, Array.replicate_zero, List.push_toArray, List.append_toArray, List.nil_append, List.cons_append]
  gi_wp2
  gi_loopw [4, 7] (fun x i wr => ∃ j : Nat, i = .int .i64 j ∧ j ≤ l.length ∧ J j wr) (fun _ i _ => l.length - (intOf i).toNat)
  case atStart => exact ⟨0, rfl, by omega, h0⟩
  case round =>
    obtain ⟨j, rfl, hj, hJj⟩ := hrel
    clear h0 c0
    by_cases hlt : j < l.length
    · have d1 : decide ((j : Int) < (l.length : Int)) = true := by simp; omega
      have d2 : decide (j < l.length) = true := by simp; omega
      obtain ⟨g, hg, q0, q1⟩ := (hJ _ _ hJj).at_ j hlt
      simp only at hg
      subst hg
      have hx : l[j]?.getD (0, 0) = l[j] := by rw [List.getElem?_eq_getElem hlt]; rfl
      have hJ1 := fun o => hd _ _ _ hJj ((Fr.refl [] wr).alloc o)
      have hYj := fun o => hY j _ (hJ1 o) hlt
      rw [hx] at hYj
      generalize l[j] = x at *
      obtain ⟨x, y⟩ := x
      simp only at q0 q1 hYj
      have HY := Lib.hid (hYj (.cells #[.int .i64 x, .int .i64 y] 158))
      clear hx hYj hJ1
      obtain ⟨fn, tmps, assign, body, hy, hR⟩ := HY.out
      gi_wp2
      refine ⟨rfl, hR.mono ?_⟩
      rintro e W2 ⟨rfl, hJ2, -⟩
      gi_wp2
      go_roundw
      case rel => exact ⟨j + 1, by go_num, by omega, hJ2⟩
      case measure => simp [intOf]; omega
    · have d1 : decide ((j : Int) < (l.length : Int)) = false := by simp; omega
      gi_wp2
      go_end0
      exact ⟨⟨_, rfl⟩, j, hlt, hJj⟩

end Go.Proofs.YtneggoonlmmjeaaGreat
namespace Go.Proofs.YtneggoonlmmjeaaGreat
open Go.RowKit Go.Shelf
set_option linter.unusedVariables false
set_option linter.unusedSimpArgs false
set_option maxRecDepth 100000
attribute [local go_sem] Oper.semAt_some

theorem Fr.putObj (W : World) (l : Nat) (o' : Obj) : Fr [l] W (W.putObj l o') := ⟨rfl, rfl, rfl, by simp, fun k _ hn => World.putObj_heap_other (by simpa using hn)⟩
theorem KeepsOthers.fr {L : List Nat} {w w' : World} (f : Fr L w w') (hL : ∀ x ∈ L, ∃ cs t fz, w.heap[x]? = some (.cells cs t fz)) : KeepsOthers w w' :=
  ⟨f.size, fun k o e ho => f.keeps e fun hm => by
    obtain ⟨cs, t, fz, h⟩ := hL k hm
    rw [h] at e
    cases e
    cases ho⟩
theorem IsTie.cells {w : World} {v : TV} {m : TM} (h : IsTie w v m) : ∀ x ∈ v.foot, ∃ cs t f, w.heap[x]? = some (.cells cs t f) := by
  intro x hx
  simp only [TV.foot, List.mem_cons, List.mem_append] at hx
  obtain ⟨xs, ho⟩ := h.os.own
  obtain ⟨ys, hk⟩ := h.ok.own
  obtain ⟨zs, hq⟩ := h.back.que.row.own
  have key : ∀ {u : TypeId} {z n : Nat} {s : Sl} {xs : List Value}, w.ownsRow 0 u z s.v n xs → x ∈ s.blk → ∃ cs t f, w.heap[x]? = some (.cells cs t f) := fun ho hm => by
    obtain ⟨_, cs, e⟩ := own_blk ho x hm
    exact ⟨_, _, _, e⟩
  rcases hx with rfl | rfl | rfl | rfl | rfl | hx | hx | hx | hx | hx
  · exact ⟨_, _, _, h.blk⟩
  · exact ⟨_, _, _, h.back.back⟩
  · exact ⟨_, _, _, h.back.que.head⟩
  · exact ⟨_, _, _, h.win⟩
  · exact ⟨_, _, _, h.clk.head⟩
  · exact key hq hx
  · exact key h.clk.own hx
  · exact key ho hx
  · exact key h.oy hx
  · exact key hk hx
theorem tstop_head (x : Int × Int) (r : TL) : tstop (x :: r) x.1 = r := by simp [tstop, List.findIdx?_cons]
/-- Between two rounds. -/
def SI (w : World) (v : TV) (m : TM) (B q : Nat) (sr : Sl) (j : Nat) (W : World) : Prop :=
  ∃ s : Sl, IsTie W { v with cl := s } { m with tm := m.tm.drop j } ∧ Fr v.foot w W ∧ (∀ x ∈ ({ v with cl := s } : TV).foot, (x ∈ v.foot ∨ w.heap.size ≤ x) ∧ x ≠ B ∧ x ≠ q ∧ x ∉ sr.blk) ∧ Blk W B #[.pointer (some ⟨v.t, 0, none⟩)] 26 ∧ TCore q sr m.tm W ∧ w.heap.size ≤ B ∧ w.heap.size ≤ q ∧ ∀ x ∈ sr.blk, w.heap.size ≤ x
theorem TCore.fr {q : Nat} {s : Sl} {l : TL} {W W' : World} {L : List Nat} (h : TCore q s l W) (f : Fr L W W') (hq : q ∉ L) (hs : ∀ x ∈ s.blk, x ∉ L) : TCore q s l W' :=
  ⟨h.cell.fr f hq, h.own.1, h.own.2.imp id fun ⟨g, cap, cur, e, hg, hb, r⟩ => ⟨g, cap, cur, e, hg, f.keeps hb (hs g (blk_mem e)), r⟩⟩
theorem SI.on {w W W' : World} {v : TV} {m : TM} {B q : Nat} {sr : Sl} {j : Nat} (h : SI w v m B q sr j W) (f : Fr [] W W') : SI w v m B q sr j W' := by
  obtain ⟨s, h1, h2, h3, h4, h5, h6⟩ := h
  exact ⟨s, h1.fr0 f, h2.tr0 f, h3, h4.fr f (by simp), h5.fr f (by simp) (by simp), h6⟩
theorem SI.put {w W : World} {v : TV} {m : TM} {B q : Nat} {sr : Sl} {j l : Nat} {o o' : Obj} (h : SI w v m B q sr j W) (hv : v.hi ≤ w.heap.size) (hl : w.heap.size ≤ l) (ho : W.heap[l]? = some o) (hc : o.isCells = false) : SI w v m B q sr j (W.putObj l o') := by
  obtain ⟨s, h1, h2, h3, h4, h5, h6, h7, h8⟩ := h
  have no : ∀ {x : Nat}, (∃ cs t f, W.heap[x]? = some (.cells cs t f)) → x ∉ [l] := fun ⟨cs, t, f, e⟩ hm => by
    simp only [List.mem_singleton] at hm
    subst hm
    rw [ho] at e
    cases e
    cases hc
  have f := Fr.putObj W l o'
  refine ⟨s, h1.frL f (fun x hx hm => no (h1.cells x hm) hx) (fun x hx => by simp at hx; subst hx; exact Nat.le_trans hv hl) (fun x hx cs f' e => no ⟨_, _, _, e⟩ hx) (fun x hx e => by obtain ⟨cs, hb⟩ := h1.pcell e; exact no ⟨_, _, _, hb⟩ hx), h2.trans f (fun x hx => .inr (by simp at hx; subst hx; exact hl)), h3, h4.fr f (no ⟨_, _, _, h4⟩), h5.fr f (no ⟨_, _, _, h5.cell⟩) (fun x hx => no ?_), h6, h7, h8⟩
  obtain ⟨_, cs, e⟩ := own_blk h5.own x hx
  exact ⟨_, _, _, e⟩

set_option maxHeartbeats 4000000 in
theorem tie_stopAll (w : World) (v : TV) (m : TM) (h : IsTie w v m) (hl : m.tm.length ≤ 1000) :
    Calls Tryz.prog 151 #[.pointer (some ⟨v.t, 0, none⟩)] w fun e w' => e = .returned (.tuple #[]) ∧ TieTo w w' v { m with tm := [] } := by
  have hb := Blk.new w #[.pointer (some ⟨v.t, 0, none⟩)] 26
  have f1 := (Fr.refl [] w).alloc (.cells #[.pointer (some ⟨v.t, 0, none⟩)] 26)
  have h1 := h.fr0 f1
  have c15 := h1.c15
  have hlt := h.lt
  have hhi := h.hile
  have H1 := Lib.hid h1
  have F1 := Lib.hid f1
  have HLT := Lib.hid hlt
  have HB : Hid (Blk (w.alloc (.cells #[.pointer (some ⟨v.t, 0, none⟩)] 26)) w.heap.size #[.pointer (some ⟨v.t, 0, none⟩)] 26) := Lib.hid hb
  clear h h1 f1 hb hlt
  refine (callsIn_wide (n := 0)).1 ?_
  refine callsIn_of_wp_marks Tryz.func151 rfl trivial ?_ rfl
  simp only [Tryz.ntmps151, List.size_toArray, List.length_cons, List.length_nil, Nat.reduceAdd, Nat.reduceSub, Array.replicate_succ, Array.replicate_zero, List.push_toArray, List.append_toArray, List.nil_append, List.cons_append]
  refine wpIn_wide.2 ?_
  go_wp2_with fail
  refine (clk_Each _ v.c v.cl 4 v.now m.tm H1.out.clk hl).mono ?_
  rintro e w5 ⟨q, sr, rfl, hq, hn, hqn, f5⟩
  have hsz := F1.out.size
  have hbs : w.heap.size < (w.alloc (.cells #[.pointer (some ⟨v.t, 0, none⟩)] 26)).heap.size := HB.out.lt
  have hI0 : SI w v m w.heap.size q sr 0 w5 := by
    refine ⟨v.cl, H1.out.fr0 f5, (F1.out.tr f5).mono (by simp), fun x hx => ?_, HB.out.fr f5 (by simp), ⟨hq, hn.own⟩, Nat.le_refl _, by omega, fun x hx => by have := hn.new x hx; omega⟩
    have h1 := HLT.out x hx
    exact ⟨.inl hx, by omega, by omega, fun hm => by have := hn.new x hm; omega⟩
  have HI0 := Lib.hid hI0
  have hqs : w.heap.size ≤ w5.heap.size := (F1.out.tr f5).size
  clear hI0 hq hn f5 c15
  generalize hB5 : w.heap.size = B5 at *
  have HB5 := Lib.hid hB5
  clear hB5
  go_wp2
  refine wp_rangeFunc_step (σ := Nat) (gf := 230) (lb := #[.pointer (some ⟨q, 0, none⟩)]) rfl (enters_of Tryz.func230 (by kernel_rfl) rfl)
    (SI w v m B5 q sr) ?hI ?hA (fun _ _ => True) (fun _ _ _ _ _ _ _ _ => trivial) (fun _ _ _ _ _ => trivial) 0 HI0.out (fun k => #[.int .i64 (m.tm[k]?.getD (0, 0)).1, .int .i64 (m.tm[k]?.getD (0, 0)).2]) (fun _ => rfl) (fun k => k < m.tm.length) (fun k => k + 1) ?iter
    (fun k => { tmps := #[.pointer (some ⟨v.t, 0, none⟩), .pointer (some ⟨B5, 0, none⟩), .int .i64 (m.tm[k]?.getD (0, 0)).1, .pointer (some ⟨v.t, 0, none⟩), .pointer (some ⟨v.t, 0, none⟩), .pointer (some ⟨v.t, 15, none⟩), .pointer (some ⟨v.c, 0, none⟩), .func (.func 230) #[] #[.pointer (some ⟨q, 0, none⟩)], .int .i64 (m.tm[k]?.getD (0, 0)).1, .int .i64 (m.tm[k]?.getD (0, 0)).2, undef, undef, undef, undef, undef, undef], defers := [] }) ?assign ?body ?done
  case hI =>
    intro k W l o o' h hl ho hc hw
    have hBl : B5 ≤ l := Nat.le_trans hqs hl
    exact h.put (by rw [HB5.out]; exact hhi) (by rw [HB5.out]; exact hBl) ho hc
  case hA => intro k W W' h f; exact h.on f
  case iter =>
    intro l J W hJ hd hY hj0
    exact tim_iter q sr m.tm hl l J (fun k W h => by obtain ⟨_, _, _, _, _, h6, _⟩ := hJ k W h; exact h6) hd hY W hj0
  case assign =>
    intro l k W K hK
    gi_wp2
    exact hK
  case body =>
    intro l k W h hmore
    have hx : m.tm[k]?.getD (0, 0) = m.tm[k] := by rw [List.getElem?_eq_getElem hmore]; rfl
    have hdr : m.tm.drop k = m.tm[k] :: m.tm.drop (k + 1) := List.drop_eq_getElem_cons hmore
    obtain ⟨s, h1, h2, h3, h4, h5, h6, h7, h8⟩ := h
    have c15 := h1.c15
    have cB := h4.cell 0 rfl
    simp only [List.getElem_toArray, List.getElem_cons_zero] at cB
    have hcl : IsClk W v.c s 4 v.now (m.tm.drop k) := h1.clk
    have hlk : (m.tm.drop k).length ≤ 1000 := by rw [List.length_drop]; omega
    have hans := clk_Stop W v.c s 4 v.now (m.tm.drop k) (m.tm[k]?.getD (0, 0)).1 hcl hlk
    rw [hx, hdr, tstop_head] at hans
    have hfin : ∀ W', ClkTo W W' v.c s 4 v.now (m.tm.drop (k + 1)) → KeepsOthers W W' ∧ SI w v m B5 q sr (k + 1) W' := by
      intro W' hc
      obtain ⟨s', hk', f', n'⟩ := hc
      obtain ⟨g1, g2, g3⟩ := h1.setClk1 hk' f' n'
      have sB := h4.lt
      have sQ := h5.cell.lt
      have sR : ∀ x ∈ sr.blk, x < W.heap.size := fun x hx => by obtain ⟨_, cs, e⟩ := own_blk h5.own x hx; exact (Array.getElem?_eq_some_iff.1 e).1
      refine ⟨KeepsOthers.fr g2 h1.cells, s', g1, h2.trans g2 (fun x hx => (h3 x hx).1), fun x hx => ?_, h4.fr g2 (fun hm => (h3 _ hm).2.1 rfl), h5.fr g2 (fun hm => (h3 _ hm).2.2.1 rfl) (fun x hx hm => (h3 _ hm).2.2.2 hx), h6, h7, h8⟩
      rcases g3 x hx with h9 | h9
      · exact h3 x h9
      · exact ⟨.inr (Nat.le_trans h2.size h9), by omega, by omega, fun hm => by have := sR x hm; omega⟩
    have HFIN := Lib.hid hfin
    clear hfin hdr hlk hcl h1 h2 h3 h4 h5
    simp only at c15
    gi_wp2
    rw [hx]
    refine ⟨trivial, rfl, CallsIn.inRound l (callsIn_wide.2 (hans.mono ?_))⟩
    rintro e W' ⟨rfl, hc⟩
    have HF2 := Lib.hid (HFIN.out W' hc)
    clear hc
    gi_wp2
    exact ⟨HF2.out.1, HF2.out.2, trivial⟩
  case done =>
    intro D k W hD hk h hdef
    have hdr : m.tm.drop k = [] := List.drop_eq_nil_of_le (by omega)
    have hput : ∀ o', TieTo w (W.putObj D o') v { m with tm := [] } := by
      intro o'
      have h9 := h.put (o' := o') (by rw [HB5.out]; exact hhi) (by rw [HB5.out]; exact Nat.le_trans hqs hD) hdef rfl
      obtain ⟨s, h1, h2, h3, _⟩ := h9
      rw [hdr] at h1
      exact ⟨_, h1, rfl, rfl, h2, fun x hx => (h3 x hx).1⟩
    have HP := Lib.hid hput
    clear hput h hdr
    go_wp2
    refine ⟨by simp, .inl ⟨_, _, rfl, run_takeDeferred hdef, ?_⟩⟩
    exact ⟨_, by simp [results, Tryz.results151, go_sem], rfl, HP.out _⟩

end Go.Proofs.YtneggoonlmmjeaaGreat
namespace Go.Proofs.YtneggoonlmmjeaaGreat
open Go.RowKit Go.Shelf
set_option linter.unusedVariables false
set_option linter.unusedSimpArgs false
set_option maxRecDepth 100000

def numB (n : Int) : List Int := [n / 16777216, n / 65536 % 256, n / 256 % 256, n % 256]
theorem u8_wf {x : Int} (h0 : 0 ≤ x) (h1 : x ≤ 255) : (Lit.int .u8 x).wf = true := by
  simp only [Lit.wf, IntKind.min, IntKind.max, IntKind.signed, IntKind.bits, Bool.and_eq_true, decide_eq_true_eq]
  simpa using ⟨h0, h1⟩
theorem numB_wf (n : Int) (h0 : 0 ≤ n) (h1 : n < 4294967296) : ∀ x ∈ numB n, (Lit.int .u8 x).wf = true := by
  intro x hx
  simp only [numB, List.mem_cons, List.not_mem_nil, or_false] at hx
  rcases hx with rfl | rfl | rfl | rfl <;> exact u8_wf (by omega) (by omega)
theorem u8_info : ∃ i0 : TypeInfo, Tryz.prog.info? 5 = some i0 ∧ i0.zero = some (.int .u8 0) ∧ i0.size = 1 ∧ i0.bytes = 1 :=
  info_parts (show (Tryz.prog.info? 5).map (fun i => (i.zero, i.size, i.bytes)) = some (some (.int .u8 0), 1, 1) by kernel_rfl)

theorem oct_may4 (w : World) : Calls Tryz.prog 170 #[.int .i64 4] w fun e w' => e = .returned (.bool true) ∧ w = w' := by
  go_enter Tryz.func170, Tryz.ntmps170
  go_wp2
  go_ret
  exact ⟨rfl, rfl⟩

set_option maxHeartbeats 2000000 in
theorem oct_Put4 (w : World) (n : Int) (h0 : 0 ≤ n) (h1 : n < 4294967296) :
    Calls Tryz.prog 223 #[.int .i64 n, .int .i64 4] w fun e w' => ∃ s : Sl, e = .returned (.slice s.A s.n s.c) ∧ NewRow w w' 5 1 s (numB n).length ((numB n).map (Value.int .u8)) ∧ Fr [] w w' := by
  obtain ⟨i0, hi0, hz0, hz1, hz2⟩ := u8_info
  have hun : Tryz.prog.underlying 49 = some (.slice 5) := Tryz.underlying49
  have d0 : decide (n < 0) = false := by simp; omega
  have hsh : n / 4294967296 = 0 := by omega
  go_enter Tryz.func223, Tryz.ntmps223
  go_wp2_with fail
  refine (oct_may4 w).mono ?_
  rintro e w1 ⟨rfl, rfl⟩
  go_wp2
  clear hsh d0
  go_loopw [5, 6] (fun bv i wr => ∃ j : Nat, ∃ s : Sl, bv = .slice s.A s.n s.c ∧ i = .int .i64 (3 - (j : Int)) ∧ j ≤ 4 ∧ Fr [] w wr ∧ NewRow w wr 5 1 s ((numB n).take j).length (((numB n).take j).map (Value.int .u8))) (fun _ i _ => (intOf i + 1).toNat)
  case atStart => exact ⟨0, Sl.nil, rfl, rfl, by omega, Fr.refl _ _, NewRow.nil _ _ _ _⟩
  case round =>
    obtain ⟨j, s, rfl, rfl, hj, fr, hr⟩ := hrel
    obtain rfl | rfl | rfl | rfl | rfl : j = 0 ∨ j = 1 ∨ j = 2 ∨ j = 3 ∨ j = 4 := by omega
    · have ho := hr
      have HF := Lib.hid fr
      have HO := Lib.hid ho
      have F2 := Lib.hid (fr.alloc (.cells #[.int .u8 (n / 16777216)] 5))
      have HO2 := Lib.hid (own_fr ho.own ((Fr.refl [] wr).alloc (.cells #[.int .u8 (n / 16777216)] 5)))
      have HN2 := Lib.hid (ho.fr ((Fr.refl [] wr).alloc (.cells #[.int .u8 (n / 16777216)] 5)))
      clear ho hr fr
      go_wp2_with (at_builtin; refine wpList_push rfl _ _ 49 rfl 5 i0 (.int .u8 0) 1 1 hun hi0 hz0 hz1 hz2 rfl (by decide) s 0 _ rfl HO2.out _ 1 [.int .u8 (n / 16777216)] rfl Src.one rfl (by intro u hu; simp at hu; subst hu; rfl) (by unfold maxLen; omega) (by omega) ?_)
      intro s3 w3 hp
      have h3 := HN2.out.push F2.out.size hp
      have F3 := HN2.out.frOf F2.out hp
      clear hp
      go_wp2
      go_roundw
      case rel => exact ⟨1, s3, rfl, by go_num, by omega, F3, h3⟩
      case measure => simp [intOf]
    · have ho := hr
      have HF := Lib.hid fr
      have HO := Lib.hid ho
      have F2 := Lib.hid (fr.alloc (.cells #[.int .u8 (n / 65536 % 256)] 5))
      have HO2 := Lib.hid (own_fr ho.own ((Fr.refl [] wr).alloc (.cells #[.int .u8 (n / 65536 % 256)] 5)))
      have HN2 := Lib.hid (ho.fr ((Fr.refl [] wr).alloc (.cells #[.int .u8 (n / 65536 % 256)] 5)))
      clear ho hr fr
      go_wp2_with (at_builtin; refine wpList_push rfl _ _ 49 rfl 5 i0 (.int .u8 0) 1 1 hun hi0 hz0 hz1 hz2 rfl (by decide) s 1 _ rfl HO2.out _ 1 [.int .u8 (n / 65536 % 256)] rfl Src.one rfl (by intro u hu; simp at hu; subst hu; rfl) (by unfold maxLen; omega) (by omega) ?_)
      intro s3 w3 hp
      have h3 := HN2.out.push F2.out.size hp
      have F3 := HN2.out.frOf F2.out hp
      clear hp
      go_wp2
      go_roundw
      case rel => exact ⟨2, s3, rfl, by go_num, by omega, F3, h3⟩
      case measure => simp [intOf]
    · have ho := hr
      have HF := Lib.hid fr
      have HO := Lib.hid ho
      have F2 := Lib.hid (fr.alloc (.cells #[.int .u8 (n / 256 % 256)] 5))
      have HO2 := Lib.hid (own_fr ho.own ((Fr.refl [] wr).alloc (.cells #[.int .u8 (n / 256 % 256)] 5)))
      have HN2 := Lib.hid (ho.fr ((Fr.refl [] wr).alloc (.cells #[.int .u8 (n / 256 % 256)] 5)))
      clear ho hr fr
      go_wp2_with (at_builtin; refine wpList_push rfl _ _ 49 rfl 5 i0 (.int .u8 0) 1 1 hun hi0 hz0 hz1 hz2 rfl (by decide) s 2 _ rfl HO2.out _ 1 [.int .u8 (n / 256 % 256)] rfl Src.one rfl (by intro u hu; simp at hu; subst hu; rfl) (by unfold maxLen; omega) (by omega) ?_)
      intro s3 w3 hp
      have h3 := HN2.out.push F2.out.size hp
      have F3 := HN2.out.frOf F2.out hp
      clear hp
      go_wp2
      go_roundw
      case rel => exact ⟨3, s3, rfl, by go_num, by omega, F3, h3⟩
      case measure => simp [intOf]
    · have ho := hr
      have HF := Lib.hid fr
      have HO := Lib.hid ho
      have F2 := Lib.hid (fr.alloc (.cells #[.int .u8 (n % 256)] 5))
      have HO2 := Lib.hid (own_fr ho.own ((Fr.refl [] wr).alloc (.cells #[.int .u8 (n % 256)] 5)))
      have HN2 := Lib.hid (ho.fr ((Fr.refl [] wr).alloc (.cells #[.int .u8 (n % 256)] 5)))
      clear ho hr fr
      go_wp2_with (at_builtin; refine wpList_push rfl _ _ 49 rfl 5 i0 (.int .u8 0) 1 1 hun hi0 hz0 hz1 hz2 rfl (by decide) s 3 _ rfl HO2.out _ 1 [.int .u8 (n % 256)] rfl Src.one rfl (by intro u hu; simp at hu; subst hu; rfl) (by unfold maxLen; omega) (by omega) ?_)
      intro s3 w3 hp
      have h3 := HN2.out.push F2.out.size hp
      have F3 := HN2.out.frOf F2.out hp
      clear hp
      go_wp2
      go_roundw
      case rel => exact ⟨4, s3, rfl, by go_num, by omega, F3, h3⟩
      case measure => simp [intOf]
    · have H := Lib.hid (And.intro hr fr)
      clear hr fr
      go_wp2
      go_ret
      exact ⟨s, rfl, H.out.1, H.out.2⟩

theorem fld_Number (w : World) (n : Int) (h0 : 0 ≤ n) (h1 : n < 4294967296) :
    Calls Tryz.prog 189 #[.int .i64 n] w fun e w' => ∃ s : Sl, e = .returned (.slice s.A s.n s.c) ∧ Bts 0 w' s (numB n) ∧ Fr [] w w' := by
  go_enter Tryz.func189, Tryz.ntmps189
  go_wp2_with fail
  refine (oct_Put4 w n h0 h1).mono ?_
  rintro e w1 ⟨s, rfl, hr, f⟩
  have hn : s.n = 4 := own_n hr.own
  have H := Lib.hid (And.intro hr f)
  clear hr f
  obtain ⟨A, n', c⟩ := s
  simp only at hn
  subst hn
  go_wp2
  go_ret
  exact ⟨_, rfl, Bts.own H.out.1.own (numB_wf n h0 h1) 0, H.out.2⟩

end Go.Proofs.YtneggoonlmmjeaaGreat
namespace Go.Proofs.YtneggoonlmmjeaaGreat
open Go.RowKit Go.Shelf
set_option linter.unusedVariables false
set_option linter.unusedSimpArgs false
set_option maxRecDepth 100000

/-- The command's closure: own number. -/
def cmdD (m : TM) (kind : Int) : PD := ⟨0, 0, false, 2, kind, 0, 0, true, numB m.own⟩
def rspD (m : TM) (kind : Int) : PD := ⟨0, 0, true, 2, kind, 0, 0, m.poll, numB m.num⟩
def stsD (m : TM) (kind : Int) (f : Bool) : PD := ⟨0, 0, true, 1, kind, 0, m.vr, f, []⟩
def askD (m : TM) (kind : Int) : PD := ⟨0, 0, false, 1, kind, 0, m.vr, true, []⟩
def askM (m : TM) (kind : Int) : TM := { sendM m (askD m kind) with tm := tstop m.tm 29 }

set_option maxHeartbeats 2000000 in
theorem tie_command1 (w : World) (v : TV) (m : TM) (kind : Int) (b0 b1 : Nat) (h : IsTie w v m) (h0 : w.cell? ⟨b0, 0, none⟩ = some (.pointer (some ⟨v.t, 0, none⟩))) (h1 : w.cell? ⟨b1, 0, none⟩ = some (.int .i64 kind)) (ho0 : 0 ≤ m.own) (ho1 : m.own < 4294967296) (hs : m.send.length ≤ 100000) :
    Calls Tryz.prog 187 #[.pointer (some ⟨b0, 0, none⟩), .pointer (some ⟨b1, 0, none⟩)] w fun e w' => e = .returned (.tuple #[]) ∧ TieTo w w' v (sendM m (cmdD m kind)) := by
  have k0 : ∀ wx, Fr [] w wx → wx.cell? ⟨b0, 0, none⟩ = some (.pointer (some ⟨v.t, 0, none⟩)) := fun wx hf => hf.cell h0 (by simp)
  have k1 : ∀ wx, Fr [] w wx → wx.cell? ⟨b1, 0, none⟩ = some (.int .i64 kind) := fun wx hf => hf.cell h1 (by simp)
  have k16 : ∀ wx, Fr [] w wx → wx.cell? ⟨v.t, 16, none⟩ = some (.int .i64 m.own) := fun wx hf => hf.cell h.c16 (by simp)
  have HT := Lib.hid h
  clear h
  go_enter Tryz.func187, Tryz.ntmps187
  go_wp2
  refine wp_region_keepsC [] [false, false, false, false, false, false, false, false] [none, none, none, none, none, none, some 7, some 8] (fun _ => True) [Is (.pointer (some ⟨v.t, 0, none⟩)), Is (.int .i64 kind), Is (.pointer (some ⟨v.t, 0, none⟩)), Is (.pointer (some ⟨v.t, 0, none⟩)), Is (.pointer (some ⟨v.t, 16, none⟩)), Is (.int .i64 m.own), (CloneF 0 (numB m.own)), (AggF 0 (numB m.own) (cmdD m kind).arr)] 8 (by kernel_rfl) (by kernel_rfl) (by kernel_rfl) (by kernel_rfl) (by kernel_rfl) (by kernel_rfl) (by kernel_rfl) (by kernel_rfl) ?hV (fun _ _ _ h => h) trivial ?hS ?hD
  case hV =>
    repeat (first | exact trivial | exact Is.keepsN _ | exact Any.keepsN | exact CloneF.keeps | exact AggF.keeps | refine And.intro ?_ ?_)
  case hS =>
    (repeat' (first | exact trivial | refine And.intro ?_ ?_))
    · intro ac wx hf hbs hs hp K hK
      simp only [zA, Region.binds, Nat.reduceAdd] at hp
      have hs0 := hs 0 (by kernel_rfl)
      simp only [Array.getD_eq_getD_getElem?, List.getElem?_toArray, List.getElem?_cons_succ, List.getElem?_cons_zero, Option.getD_some] at hs0
      clear hs
      clear hbs
      clear hp
      have cx := k0 wx hf
      clear hf
      go_simp
      try dsimp only
      refine hK.out _ _ ?_ ?_
      · change Fr [] _ _
        (repeat (first | with_reducible (first | exact Fr.refl _ _ | assumption | refine Fr.drew ?_ | refine Fr.drewN ?_ _ | refine Fr.alloc ?_ _ | refine Fr.setL ?_ _ _ _ ?_) | (left; simp; done) | (right; first | (simp; done) | (simp; omega) | omega)); done)
      · simp only [nth]
        first | (unfold Is; rfl) | (unfold Any; exact trivial) | exact IsSl.new _ _ _ _ | assumption
    · intro ac wx hf hbs hs hp K hK
      simp only [zA, Region.binds, Nat.reduceAdd] at hp
      have hs1 := hs 1 (by kernel_rfl)
      simp only [Array.getD_eq_getD_getElem?, List.getElem?_toArray, List.getElem?_cons_succ, List.getElem?_cons_zero, Option.getD_some] at hs1
      clear hs
      clear hbs
      clear hp
      have cx := k1 wx hf
      clear hf
      go_simp
      try dsimp only
      refine hK.out _ _ ?_ ?_
      · change Fr [] _ _
        (repeat (first | with_reducible (first | exact Fr.refl _ _ | assumption | refine Fr.drew ?_ | refine Fr.drewN ?_ _ | refine Fr.alloc ?_ _ | refine Fr.setL ?_ _ _ _ ?_) | (left; simp; done) | (right; first | (simp; done) | (simp; omega) | omega)); done)
      · simp only [nth]
        first | (unfold Is; rfl) | (unfold Any; exact trivial) | exact IsSl.new _ _ _ _ | assumption
    · intro ac wx hf hbs hs hp K hK
      simp only [zA, Region.binds, Nat.reduceAdd] at hp
      have hs0 := hs 0 (by kernel_rfl)
      simp only [Array.getD_eq_getD_getElem?, List.getElem?_toArray, List.getElem?_cons_succ, List.getElem?_cons_zero, Option.getD_some] at hs0
      clear hs
      clear hbs
      clear hp
      have cx := k0 wx hf
      clear hf
      go_simp
      try dsimp only
      refine hK.out _ _ ?_ ?_
      · change Fr [] _ _
        (repeat (first | with_reducible (first | exact Fr.refl _ _ | assumption | refine Fr.drew ?_ | refine Fr.drewN ?_ _ | refine Fr.alloc ?_ _ | refine Fr.setL ?_ _ _ _ ?_) | (left; simp; done) | (right; first | (simp; done) | (simp; omega) | omega)); done)
      · simp only [nth]
        first | (unfold Is; rfl) | (unfold Any; exact trivial) | exact IsSl.new _ _ _ _ | assumption
    · intro ac wx hf hbs hs hp K hK
      simp only [zA, Region.binds, Nat.reduceAdd] at hp
      clear hs
      clear hbs
      have h2 := hp
      clear hp
      clear hf
      (try simp only [h2])
      go_simp
      try dsimp only
      refine hK.out _ _ ?_ ?_
      · change Fr [] _ _
        (repeat (first | with_reducible (first | exact Fr.refl _ _ | assumption | refine Fr.drew ?_ | refine Fr.drewN ?_ _ | refine Fr.alloc ?_ _ | refine Fr.setL ?_ _ _ _ ?_) | (left; simp; done) | (right; first | (simp; done) | (simp; omega) | omega)); done)
      · simp only [nth]
        first | (unfold Is; rfl) | (unfold Any; exact trivial) | exact IsSl.new _ _ _ _ | assumption
    · intro ac wx hf hbs hs hp K hK
      simp only [zA, Region.binds, Nat.reduceAdd] at hp
      clear hs
      clear hbs
      have h3 := hp
      clear hp
      clear hf
      (try simp only [h3])
      go_simp
      try dsimp only
      refine hK.out _ _ ?_ ?_
      · change Fr [] _ _
        (repeat (first | with_reducible (first | exact Fr.refl _ _ | assumption | refine Fr.drew ?_ | refine Fr.drewN ?_ _ | refine Fr.alloc ?_ _ | refine Fr.setL ?_ _ _ _ ?_) | (left; simp; done) | (right; first | (simp; done) | (simp; omega) | omega)); done)
      · simp only [nth]
        first | (unfold Is; rfl) | (unfold Any; exact trivial) | exact IsSl.new _ _ _ _ | assumption
    · intro ac wx hf hbs hs hp K hK
      simp only [zA, Region.binds, Nat.reduceAdd] at hp
      clear hs
      clear hbs
      have h4 := hp
      clear hp
      have cx := k16 wx hf
      clear hf
      (try simp only [h4])
      go_simp
      try dsimp only
      refine hK.out _ _ ?_ ?_
      · change Fr [] _ _
        (repeat (first | with_reducible (first | exact Fr.refl _ _ | assumption | refine Fr.drew ?_ | refine Fr.drewN ?_ _ | refine Fr.alloc ?_ _ | refine Fr.setL ?_ _ _ _ ?_) | (left; simp; done) | (right; first | (simp; done) | (simp; omega) | omega)); done)
      · simp only [nth]
        first | (unfold Is; rfl) | (unfold Any; exact trivial) | exact IsSl.new _ _ _ _ | assumption
    · intro ac wx hf hbs hs hp K hK
      simp only [zA, Region.binds, Nat.reduceAdd] at hp
      clear hs
      have h5 := hp
      clear hp
      (try simp only [h5])
      go_simp
      go_at_call 189
      refine (fld_Number _ m.own ho0 ho1).mono ?_
      rintro e w' ⟨sb, rfl, hbs2, fz⟩
      refine hK.out _ _ ?_ ?_
      · change Fr [] _ _
        exact fz
      · simp only [nth]
        exact ⟨sb, rfl, hbs2⟩
    · intro ac wx hf hbs hs hp K hK
      simp only [zA, Region.binds, Nat.reduceAdd] at hp
      clear hs
      clear hbs
      obtain ⟨h1, h6⟩ := hp
      obtain ⟨sb, e6, hb6⟩ := h6
      clear hf
      (try simp only [h1, e6])
      go_simp
      refine hK.out _ _ ?_ ?_
      · change Fr [] _ _
        exact Fr.refl _ _
      · simp only [nth]
        exact ⟨sb, rfl, hb6⟩
  case hD =>
    intro xv wx hf hp
    simp only [List.take_succ_cons, List.take_zero, List.drop_succ_cons, List.drop_zero, fill, List.setIfInBounds_toArray, List.set_cons_zero, List.set_cons_succ, Nat.reduceAdd, Act.put]
    rw [show live 8 (deadC [none, none, none, none, none, none, some 7, some 8]) = [0, 1, 2, 3, 4, 5, 7] from by decide] at hp
    simp only [holds, nth, Is, Any, true_and, and_true] at hp
    obtain ⟨p0, p1, p2, p3, p4, p5, p7⟩ := hp
    obtain ⟨sb, e7, hB⟩ := p7
    simp only [p0, e7]
    have hT2 := HT.out.fr0 hf
    have HS := Lib.hid (tie_send wx v m (cmdD m kind) sb hT2 hB hs)
    have HF := Lib.hid hf
    clear hB hT2 hf p0 p1 p2 p3 p4 p5 e7 k0 k1 k16
    go_wp2_with fail
    refine HS.out.mono ?_
    rintro e w2 ⟨rfl, ht⟩
    have HFIN := Lib.hid (TieTo.trans (HF.out.mono (by simp)) (fun x hx => .inl hx) rfl rfl ht)
    clear ht
    go_wp2
    go_end0
    exact ⟨rfl, HFIN.out⟩

set_option maxHeartbeats 2000000 in
theorem tie_response1 (w : World) (v : TV) (m : TM) (kind : Int) (b0 b1 : Nat) (h : IsTie w v m) (h0 : w.cell? ⟨b0, 0, none⟩ = some (.pointer (some ⟨v.t, 0, none⟩))) (h1 : w.cell? ⟨b1, 0, none⟩ = some (.int .i64 kind)) (ho0 : 0 ≤ m.num) (ho1 : m.num < 4294967296) (hs : m.send.length ≤ 100000) :
    Calls Tryz.prog 190 #[.pointer (some ⟨b0, 0, none⟩), .pointer (some ⟨b1, 0, none⟩)] w fun e w' => e = .returned (.tuple #[]) ∧ TieTo w w' v (sendM m (rspD m kind)) := by
  have k0 : ∀ wx, Fr [] w wx → wx.cell? ⟨b0, 0, none⟩ = some (.pointer (some ⟨v.t, 0, none⟩)) := fun wx hf => hf.cell h0 (by simp)
  have k1 : ∀ wx, Fr [] w wx → wx.cell? ⟨b1, 0, none⟩ = some (.int .i64 kind) := fun wx hf => hf.cell h1 (by simp)
  have k35 : ∀ wx, Fr [] w wx → wx.cell? ⟨v.t, 35, none⟩ = some (.bool m.poll) := fun wx hf => hf.cell h.c35 (by simp)
  have k36 : ∀ wx, Fr [] w wx → wx.cell? ⟨v.t, 36, none⟩ = some (.int .i64 m.num) := fun wx hf => hf.cell h.c36 (by simp)
  have HT := Lib.hid h
  clear h
  go_enter Tryz.func190, Tryz.ntmps190
  go_wp2
  refine wp_region_keepsC [] [false, false, false, false, false, false, false, false, false, false, false, false] [none, none, none, none, none, none, none, none, none, none, some 11, some 12] (fun _ => True) [Is (.pointer (some ⟨v.t, 0, none⟩)), Is (.int .i64 kind), Is (.pointer (some ⟨v.t, 0, none⟩)), Is (.pointer (some ⟨v.t, 0, none⟩)), Is (.pointer (some ⟨v.t, 35, none⟩)), Is (.bool m.poll), Is (.pointer (some ⟨v.t, 0, none⟩)), Is (.pointer (some ⟨v.t, 0, none⟩)), Is (.pointer (some ⟨v.t, 36, none⟩)), Is (.int .i64 m.num), (CloneF 0 (numB m.num)), (AggF 0 (numB m.num) (rspD m kind).arr)] 12 (by kernel_rfl) (by kernel_rfl) (by kernel_rfl) (by kernel_rfl) (by kernel_rfl) (by kernel_rfl) (by kernel_rfl) (by kernel_rfl) ?hV (fun _ _ _ h => h) trivial ?hS ?hD
  case hV =>
    repeat (first | exact trivial | exact Is.keepsN _ | exact Any.keepsN | exact CloneF.keeps | exact AggF.keeps | refine And.intro ?_ ?_)
  case hS =>
    (repeat' (first | exact trivial | refine And.intro ?_ ?_))
    · intro ac wx hf hbs hs hp K hK
      simp only [zA, Region.binds, Nat.reduceAdd] at hp
      have hs0 := hs 0 (by kernel_rfl)
      simp only [Array.getD_eq_getD_getElem?, List.getElem?_toArray, List.getElem?_cons_succ, List.getElem?_cons_zero, Option.getD_some] at hs0
      clear hs
      clear hbs
      clear hp
      have cx := k0 wx hf
      clear hf
      go_simp
      try dsimp only
      refine hK.out _ _ ?_ ?_
      · change Fr [] _ _
        (repeat (first | with_reducible (first | exact Fr.refl _ _ | assumption | refine Fr.drew ?_ | refine Fr.drewN ?_ _ | refine Fr.alloc ?_ _ | refine Fr.setL ?_ _ _ _ ?_) | (left; simp; done) | (right; first | (simp; done) | (simp; omega) | omega)); done)
      · simp only [nth]
        first | (unfold Is; rfl) | (unfold Any; exact trivial) | exact IsSl.new _ _ _ _ | assumption
    · intro ac wx hf hbs hs hp K hK
      simp only [zA, Region.binds, Nat.reduceAdd] at hp
      have hs1 := hs 1 (by kernel_rfl)
      simp only [Array.getD_eq_getD_getElem?, List.getElem?_toArray, List.getElem?_cons_succ, List.getElem?_cons_zero, Option.getD_some] at hs1
      clear hs
      clear hbs
      clear hp
      have cx := k1 wx hf
      clear hf
      go_simp
      try dsimp only
      refine hK.out _ _ ?_ ?_
      · change Fr [] _ _
        (repeat (first | with_reducible (first | exact Fr.refl _ _ | assumption | refine Fr.drew ?_ | refine Fr.drewN ?_ _ | refine Fr.alloc ?_ _ | refine Fr.setL ?_ _ _ _ ?_) | (left; simp; done) | (right; first | (simp; done) | (simp; omega) | omega)); done)
      · simp only [nth]
        first | (unfold Is; rfl) | (unfold Any; exact trivial) | exact IsSl.new _ _ _ _ | assumption
    · intro ac wx hf hbs hs hp K hK
      simp only [zA, Region.binds, Nat.reduceAdd] at hp
      have hs0 := hs 0 (by kernel_rfl)
      simp only [Array.getD_eq_getD_getElem?, List.getElem?_toArray, List.getElem?_cons_succ, List.getElem?_cons_zero, Option.getD_some] at hs0
      clear hs
      clear hbs
      clear hp
      have cx := k0 wx hf
      clear hf
      go_simp
      try dsimp only
      refine hK.out _ _ ?_ ?_
      · change Fr [] _ _
        (repeat (first | with_reducible (first | exact Fr.refl _ _ | assumption | refine Fr.drew ?_ | refine Fr.drewN ?_ _ | refine Fr.alloc ?_ _ | refine Fr.setL ?_ _ _ _ ?_) | (left; simp; done) | (right; first | (simp; done) | (simp; omega) | omega)); done)
      · simp only [nth]
        first | (unfold Is; rfl) | (unfold Any; exact trivial) | exact IsSl.new _ _ _ _ | assumption
    · intro ac wx hf hbs hs hp K hK
      simp only [zA, Region.binds, Nat.reduceAdd] at hp
      clear hs
      clear hbs
      have h2 := hp
      clear hp
      clear hf
      (try simp only [h2])
      go_simp
      try dsimp only
      refine hK.out _ _ ?_ ?_
      · change Fr [] _ _
        (repeat (first | with_reducible (first | exact Fr.refl _ _ | assumption | refine Fr.drew ?_ | refine Fr.drewN ?_ _ | refine Fr.alloc ?_ _ | refine Fr.setL ?_ _ _ _ ?_) | (left; simp; done) | (right; first | (simp; done) | (simp; omega) | omega)); done)
      · simp only [nth]
        first | (unfold Is; rfl) | (unfold Any; exact trivial) | exact IsSl.new _ _ _ _ | assumption
    · intro ac wx hf hbs hs hp K hK
      simp only [zA, Region.binds, Nat.reduceAdd] at hp
      clear hs
      clear hbs
      have h3 := hp
      clear hp
      clear hf
      (try simp only [h3])
      go_simp
      try dsimp only
      refine hK.out _ _ ?_ ?_
      · change Fr [] _ _
        (repeat (first | with_reducible (first | exact Fr.refl _ _ | assumption | refine Fr.drew ?_ | refine Fr.drewN ?_ _ | refine Fr.alloc ?_ _ | refine Fr.setL ?_ _ _ _ ?_) | (left; simp; done) | (right; first | (simp; done) | (simp; omega) | omega)); done)
      · simp only [nth]
        first | (unfold Is; rfl) | (unfold Any; exact trivial) | exact IsSl.new _ _ _ _ | assumption
    · intro ac wx hf hbs hs hp K hK
      simp only [zA, Region.binds, Nat.reduceAdd] at hp
      clear hs
      clear hbs
      have h4 := hp
      clear hp
      have cx := k35 wx hf
      clear hf
      (try simp only [h4])
      go_simp
      try dsimp only
      refine hK.out _ _ ?_ ?_
      · change Fr [] _ _
        (repeat (first | with_reducible (first | exact Fr.refl _ _ | assumption | refine Fr.drew ?_ | refine Fr.drewN ?_ _ | refine Fr.alloc ?_ _ | refine Fr.setL ?_ _ _ _ ?_) | (left; simp; done) | (right; first | (simp; done) | (simp; omega) | omega)); done)
      · simp only [nth]
        first | (unfold Is; rfl) | (unfold Any; exact trivial) | exact IsSl.new _ _ _ _ | assumption
    · intro ac wx hf hbs hs hp K hK
      simp only [zA, Region.binds, Nat.reduceAdd] at hp
      have hs0 := hs 0 (by kernel_rfl)
      simp only [Array.getD_eq_getD_getElem?, List.getElem?_toArray, List.getElem?_cons_succ, List.getElem?_cons_zero, Option.getD_some] at hs0
      clear hs
      clear hbs
      clear hp
      have cx := k0 wx hf
      clear hf
      go_simp
      try dsimp only
      refine hK.out _ _ ?_ ?_
      · change Fr [] _ _
        (repeat (first | with_reducible (first | exact Fr.refl _ _ | assumption | refine Fr.drew ?_ | refine Fr.drewN ?_ _ | refine Fr.alloc ?_ _ | refine Fr.setL ?_ _ _ _ ?_) | (left; simp; done) | (right; first | (simp; done) | (simp; omega) | omega)); done)
      · simp only [nth]
        first | (unfold Is; rfl) | (unfold Any; exact trivial) | exact IsSl.new _ _ _ _ | assumption
    · intro ac wx hf hbs hs hp K hK
      simp only [zA, Region.binds, Nat.reduceAdd] at hp
      clear hs
      clear hbs
      have h6 := hp
      clear hp
      clear hf
      (try simp only [h6])
      go_simp
      try dsimp only
      refine hK.out _ _ ?_ ?_
      · change Fr [] _ _
        (repeat (first | with_reducible (first | exact Fr.refl _ _ | assumption | refine Fr.drew ?_ | refine Fr.drewN ?_ _ | refine Fr.alloc ?_ _ | refine Fr.setL ?_ _ _ _ ?_) | (left; simp; done) | (right; first | (simp; done) | (simp; omega) | omega)); done)
      · simp only [nth]
        first | (unfold Is; rfl) | (unfold Any; exact trivial) | exact IsSl.new _ _ _ _ | assumption
    · intro ac wx hf hbs hs hp K hK
      simp only [zA, Region.binds, Nat.reduceAdd] at hp
      clear hs
      clear hbs
      have h7 := hp
      clear hp
      clear hf
      (try simp only [h7])
      go_simp
      try dsimp only
      refine hK.out _ _ ?_ ?_
      · change Fr [] _ _
        (repeat (first | with_reducible (first | exact Fr.refl _ _ | assumption | refine Fr.drew ?_ | refine Fr.drewN ?_ _ | refine Fr.alloc ?_ _ | refine Fr.setL ?_ _ _ _ ?_) | (left; simp; done) | (right; first | (simp; done) | (simp; omega) | omega)); done)
      · simp only [nth]
        first | (unfold Is; rfl) | (unfold Any; exact trivial) | exact IsSl.new _ _ _ _ | assumption
    · intro ac wx hf hbs hs hp K hK
      simp only [zA, Region.binds, Nat.reduceAdd] at hp
      clear hs
      clear hbs
      have h8 := hp
      clear hp
      have cx := k36 wx hf
      clear hf
      (try simp only [h8])
      go_simp
      try dsimp only
      refine hK.out _ _ ?_ ?_
      · change Fr [] _ _
        (repeat (first | with_reducible (first | exact Fr.refl _ _ | assumption | refine Fr.drew ?_ | refine Fr.drewN ?_ _ | refine Fr.alloc ?_ _ | refine Fr.setL ?_ _ _ _ ?_) | (left; simp; done) | (right; first | (simp; done) | (simp; omega) | omega)); done)
      · simp only [nth]
        first | (unfold Is; rfl) | (unfold Any; exact trivial) | exact IsSl.new _ _ _ _ | assumption
    · intro ac wx hf hbs hs hp K hK
      simp only [zA, Region.binds, Nat.reduceAdd] at hp
      clear hs
      have h9 := hp
      clear hp
      (try simp only [h9])
      go_simp
      go_at_call 189
      refine (fld_Number _ m.num ho0 ho1).mono ?_
      rintro e w' ⟨sb, rfl, hbs2, fz⟩
      refine hK.out _ _ ?_ ?_
      · change Fr [] _ _
        exact fz
      · simp only [nth]
        exact ⟨sb, rfl, hbs2⟩
    · intro ac wx hf hbs hs hp K hK
      simp only [zA, Region.binds, Nat.reduceAdd] at hp
      clear hs
      clear hbs
      obtain ⟨h1, h5, h10⟩ := hp
      obtain ⟨sb, e10, hb10⟩ := h10
      clear hf
      (try simp only [h1, h5, e10])
      go_simp
      refine hK.out _ _ ?_ ?_
      · change Fr [] _ _
        exact Fr.refl _ _
      · simp only [nth]
        exact ⟨sb, rfl, hb10⟩
  case hD =>
    intro xv wx hf hp
    simp only [List.take_succ_cons, List.take_zero, List.drop_succ_cons, List.drop_zero, fill, List.setIfInBounds_toArray, List.set_cons_zero, List.set_cons_succ, Nat.reduceAdd, Act.put]
    rw [show live 12 (deadC [none, none, none, none, none, none, none, none, none, none, some 11, some 12]) = [0, 1, 2, 3, 4, 5, 6, 7, 8, 9, 11] from by decide] at hp
    simp only [holds, nth, Is, Any, true_and, and_true] at hp
    obtain ⟨p0, p1, p2, p3, p4, p5, p6, p7, p8, p9, p11⟩ := hp
    obtain ⟨sb, e11, hB⟩ := p11
    simp only [p0, e11]
    have hT2 := HT.out.fr0 hf
    have HS := Lib.hid (tie_send wx v m (rspD m kind) sb hT2 hB hs)
    have HF := Lib.hid hf
    clear hB hT2 hf p0 p1 p2 p3 p4 p5 p6 p7 p8 p9 e11 k0 k1 k35 k36
    go_wp2_with fail
    refine HS.out.mono ?_
    rintro e w2 ⟨rfl, ht⟩
    have HFIN := Lib.hid (TieTo.trans (HF.out.mono (by simp)) (fun x hx => .inl hx) rfl rfl ht)
    clear ht
    go_wp2
    go_end0
    exact ⟨rfl, HFIN.out⟩

set_option maxHeartbeats 2000000 in
theorem tie_status1 (w : World) (v : TV) (m : TM) (kind : Int) (f : Bool) (b0 b1 b2 : Nat) (h : IsTie w v m) (h0 : w.cell? ⟨b0, 0, none⟩ = some (.pointer (some ⟨v.t, 0, none⟩))) (h1 : w.cell? ⟨b1, 0, none⟩ = some (.int .i64 kind)) (h2 : w.cell? ⟨b2, 0, none⟩ = some (.bool f)) (hs : m.send.length ≤ 100000) :
    Calls Tryz.prog 210 #[.pointer (some ⟨b0, 0, none⟩), .pointer (some ⟨b1, 0, none⟩), .pointer (some ⟨b2, 0, none⟩)] w fun e w' => e = .returned (.tuple #[]) ∧ TieTo w w' v (sendM m (stsD m kind f)) := by
  have k0 : ∀ wx, Fr [] w wx → wx.cell? ⟨b0, 0, none⟩ = some (.pointer (some ⟨v.t, 0, none⟩)) := fun wx hf => hf.cell h0 (by simp)
  have k1 : ∀ wx, Fr [] w wx → wx.cell? ⟨b1, 0, none⟩ = some (.int .i64 kind) := fun wx hf => hf.cell h1 (by simp)
  have k2 : ∀ wx, Fr [] w wx → wx.cell? ⟨b2, 0, none⟩ = some (.bool f) := fun wx hf => hf.cell h2 (by simp)
  have HT := Lib.hid h
  clear h
  go_enter Tryz.func210, Tryz.ntmps210
  go_wp2
  refine wp_region_keepsC [] [false, false, false, false, false, false, false, false] [none, none, none, none, none, none, none, none] (fun _ => True) [Is (.pointer (some ⟨v.t, 0, none⟩)), Is (.int .i64 kind), Is (.pointer (some ⟨v.t, 0, none⟩)), Is (.pointer (some ⟨v.t, 0, none⟩)), Is (.pointer (some ⟨v.t, 10, none⟩)), Is (.int .i64 m.vr), Is (.bool f), Is (.agg ((stsD m kind f).arr Sl.nil))] 8 (by kernel_rfl) (by kernel_rfl) (by kernel_rfl) (by kernel_rfl) (by kernel_rfl) (by kernel_rfl) (by kernel_rfl) (by kernel_rfl) ?hV (fun _ _ _ h => h) trivial ?hS ?hD
  case hV =>
    repeat (first | exact trivial | exact Is.keepsN _ | exact Any.keepsN | exact CloneF.keeps | exact AggF.keeps | refine And.intro ?_ ?_)
  case hS =>
    (repeat' (first | exact trivial | refine And.intro ?_ ?_))
    · intro ac wx hf hbs hs hp K hK
      simp only [zA, Region.binds, Nat.reduceAdd] at hp
      have hs0 := hs 0 (by kernel_rfl)
      simp only [Array.getD_eq_getD_getElem?, List.getElem?_toArray, List.getElem?_cons_succ, List.getElem?_cons_zero, Option.getD_some] at hs0
      clear hs
      clear hbs
      clear hp
      have cx := k0 wx hf
      clear hf
      go_simp
      try dsimp only
      refine hK.out _ _ ?_ ?_
      · change Fr [] _ _
        (repeat (first | with_reducible (first | exact Fr.refl _ _ | assumption | refine Fr.drew ?_ | refine Fr.drewN ?_ _ | refine Fr.alloc ?_ _ | refine Fr.setL ?_ _ _ _ ?_) | (left; simp; done) | (right; first | (simp; done) | (simp; omega) | omega)); done)
      · simp only [nth]
        first | (unfold Is; rfl) | (unfold Any; exact trivial) | exact IsSl.new _ _ _ _ | assumption
    · intro ac wx hf hbs hs hp K hK
      simp only [zA, Region.binds, Nat.reduceAdd] at hp
      have hs1 := hs 1 (by kernel_rfl)
      simp only [Array.getD_eq_getD_getElem?, List.getElem?_toArray, List.getElem?_cons_succ, List.getElem?_cons_zero, Option.getD_some] at hs1
      clear hs
      clear hbs
      clear hp
      have cx := k1 wx hf
      clear hf
      go_simp
      try dsimp only
      refine hK.out _ _ ?_ ?_
      · change Fr [] _ _
        (repeat (first | with_reducible (first | exact Fr.refl _ _ | assumption | refine Fr.drew ?_ | refine Fr.drewN ?_ _ | refine Fr.alloc ?_ _ | refine Fr.setL ?_ _ _ _ ?_) | (left; simp; done) | (right; first | (simp; done) | (simp; omega) | omega)); done)
      · simp only [nth]
        first | (unfold Is; rfl) | (unfold Any; exact trivial) | exact IsSl.new _ _ _ _ | assumption
    · intro ac wx hf hbs hs hp K hK
      simp only [zA, Region.binds, Nat.reduceAdd] at hp
      have hs0 := hs 0 (by kernel_rfl)
      simp only [Array.getD_eq_getD_getElem?, List.getElem?_toArray, List.getElem?_cons_succ, List.getElem?_cons_zero, Option.getD_some] at hs0
      clear hs
      clear hbs
      clear hp
      have cx := k0 wx hf
      clear hf
      go_simp
      try dsimp only
      refine hK.out _ _ ?_ ?_
      · change Fr [] _ _
        (repeat (first | with_reducible (first | exact Fr.refl _ _ | assumption | refine Fr.drew ?_ | refine Fr.drewN ?_ _ | refine Fr.alloc ?_ _ | refine Fr.setL ?_ _ _ _ ?_) | (left; simp; done) | (right; first | (simp; done) | (simp; omega) | omega)); done)
      · simp only [nth]
        first | (unfold Is; rfl) | (unfold Any; exact trivial) | exact IsSl.new _ _ _ _ | assumption
    · intro ac wx hf hbs hs hp K hK
      simp only [zA, Region.binds, Nat.reduceAdd] at hp
      clear hs
      clear hbs
      have h2 := hp
      clear hp
      clear hf
      (try simp only [h2])
      go_simp
      try dsimp only
      refine hK.out _ _ ?_ ?_
      · change Fr [] _ _
        (repeat (first | with_reducible (first | exact Fr.refl _ _ | assumption | refine Fr.drew ?_ | refine Fr.drewN ?_ _ | refine Fr.alloc ?_ _ | refine Fr.setL ?_ _ _ _ ?_) | (left; simp; done) | (right; first | (simp; done) | (simp; omega) | omega)); done)
      · simp only [nth]
        first | (unfold Is; rfl) | (unfold Any; exact trivial) | exact IsSl.new _ _ _ _ | assumption
    · intro ac wx hf hbs hs hp K hK
      simp only [zA, Region.binds, Nat.reduceAdd] at hp
      clear hs
      clear hbs
      have h3 := hp
      clear hp
      clear hf
      (try simp only [h3])
      go_simp
      try dsimp only
      refine hK.out _ _ ?_ ?_
      · change Fr [] _ _
        (repeat (first | with_reducible (first | exact Fr.refl _ _ | assumption | refine Fr.drew ?_ | refine Fr.drewN ?_ _ | refine Fr.alloc ?_ _ | refine Fr.setL ?_ _ _ _ ?_) | (left; simp; done) | (right; first | (simp; done) | (simp; omega) | omega)); done)
      · simp only [nth]
        first | (unfold Is; rfl) | (unfold Any; exact trivial) | exact IsSl.new _ _ _ _ | assumption
    · intro ac wx hf hbs hs hp K hK
      simp only [zA, Region.binds, Nat.reduceAdd] at hp
      clear hs
      clear hbs
      have h4 := hp
      clear hp
      have hv3 := (HT.out.fr0 hf).v3
      clear hf
      (try simp only [h4])
      go_simp
      go_at_call 60
      refine (vars_Vr v.t (m.cells v) m.vs m.vr m.va wx hv3).mono ?_
      rintro e w' ⟨rfl, fz⟩
      exact hK.out _ _ fz rfl
    · intro ac wx hf hbs hs hp K hK
      simp only [zA, Region.binds, Nat.reduceAdd] at hp
      have hs2 := hs 2 (by kernel_rfl)
      simp only [Array.getD_eq_getD_getElem?, List.getElem?_toArray, List.getElem?_cons_succ, List.getElem?_cons_zero, Option.getD_some] at hs2
      clear hs
      clear hbs
      clear hp
      have cx := k2 wx hf
      clear hf
      go_simp
      try dsimp only
      refine hK.out _ _ ?_ ?_
      · change Fr [] _ _
        (repeat (first | with_reducible (first | exact Fr.refl _ _ | assumption | refine Fr.drew ?_ | refine Fr.drewN ?_ _ | refine Fr.alloc ?_ _ | refine Fr.setL ?_ _ _ _ ?_) | (left; simp; done) | (right; first | (simp; done) | (simp; omega) | omega)); done)
      · simp only [nth]
        first | (unfold Is; rfl) | (unfold Any; exact trivial) | exact IsSl.new _ _ _ _ | assumption
    · intro ac wx hf hbs hs hp K hK
      simp only [zA, Region.binds, Nat.reduceAdd] at hp
      clear hs
      clear hbs
      obtain ⟨h1, h5, h6⟩ := hp
      clear hf
      (try simp only [h1, h5, h6])
      go_simp
      try dsimp only
      refine hK.out _ _ ?_ ?_
      · change Fr [] _ _
        (repeat (first | with_reducible (first | exact Fr.refl _ _ | assumption | refine Fr.drew ?_ | refine Fr.drewN ?_ _ | refine Fr.alloc ?_ _ | refine Fr.setL ?_ _ _ _ ?_) | (left; simp; done) | (right; first | (simp; done) | (simp; omega) | omega)); done)
      · simp only [nth]
        first | (unfold Is; rfl) | (unfold Any; exact trivial) | exact IsSl.new _ _ _ _ | assumption
  case hD =>
    intro xv wx hf hp
    simp only [List.take_succ_cons, List.take_zero, List.drop_succ_cons, List.drop_zero, fill, List.setIfInBounds_toArray, List.set_cons_zero, List.set_cons_succ, Nat.reduceAdd, Act.put]
    rw [show live 8 (deadC [none, none, none, none, none, none, none, none]) = [0, 1, 2, 3, 4, 5, 6, 7] from by decide] at hp
    simp only [holds, nth, Is, Any, true_and, and_true] at hp
    obtain ⟨p0, p1, p2, p3, p4, p5, p6, p7⟩ := hp
    simp only [p0, p7]
    have hB : Bts 0 wx Sl.nil (stsD m kind f).info := Bts.nil _ _
    have hT2 := HT.out.fr0 hf
    have HS := Lib.hid (tie_send wx v m (stsD m kind f) Sl.nil hT2 hB hs)
    have HF := Lib.hid hf
    clear hB hT2 hf p0 p1 p2 p3 p4 p5 p6 p7 k0 k1 k2
    go_wp2_with fail
    refine HS.out.mono ?_
    rintro e w2 ⟨rfl, ht⟩
    have HFIN := Lib.hid (TieTo.trans (HF.out.mono (by simp)) (fun x hx => .inl hx) rfl rfl ht)
    clear ht
    go_wp2
    go_end0
    exact ⟨rfl, HFIN.out⟩

set_option maxHeartbeats 2000000 in
theorem tie_ask1 (w : World) (v : TV) (m : TM) (kind : Int) (b0 b1 : Nat) (h : IsTie w v m) (h0 : w.cell? ⟨b0, 0, none⟩ = some (.pointer (some ⟨v.t, 0, none⟩))) (h1 : w.cell? ⟨b1, 0, none⟩ = some (.int .i64 kind)) (hb0 : b0 ∉ v.foot) (hl : m.tm.length ≤ 1000) (hs : m.send.length ≤ 100000) :
    Calls Tryz.prog 211 #[.pointer (some ⟨b0, 0, none⟩), .pointer (some ⟨b1, 0, none⟩)] w fun e w' => e = .returned (.tuple #[]) ∧ TieTo w w' v (askM m kind) := by
  have k0 : ∀ wx, Fr [] w wx → wx.cell? ⟨b0, 0, none⟩ = some (.pointer (some ⟨v.t, 0, none⟩)) := fun wx hf => hf.cell h0 (by simp)
  have k1 : ∀ wx, Fr [] w wx → wx.cell? ⟨b1, 0, none⟩ = some (.int .i64 kind) := fun wx hf => hf.cell h1 (by simp)
  have HT := Lib.hid h
  clear h
  go_enter Tryz.func211, Tryz.ntmps211
  go_wp2
  refine wp_region_keepsC [] [false, false, false, false, false, false, false] [none, none, none, none, none, none, none] (fun _ => True) [Is (.pointer (some ⟨v.t, 0, none⟩)), Is (.int .i64 kind), Is (.pointer (some ⟨v.t, 0, none⟩)), Is (.pointer (some ⟨v.t, 0, none⟩)), Is (.pointer (some ⟨v.t, 10, none⟩)), Is (.int .i64 m.vr), Is (.agg ((askD m kind).arr Sl.nil))] 7 (by kernel_rfl) (by kernel_rfl) (by kernel_rfl) (by kernel_rfl) (by kernel_rfl) (by kernel_rfl) (by kernel_rfl) (by kernel_rfl) ?hV (fun _ _ _ h => h) trivial ?hS ?hD
  case hV =>
    repeat (first | exact trivial | exact Is.keepsN _ | exact Any.keepsN | exact CloneF.keeps | exact AggF.keeps | refine And.intro ?_ ?_)
  case hS =>
    (repeat' (first | exact trivial | refine And.intro ?_ ?_))
    · intro ac wx hf hbs hs hp K hK
      simp only [zA, Region.binds, Nat.reduceAdd] at hp
      have hs0 := hs 0 (by kernel_rfl)
      simp only [Array.getD_eq_getD_getElem?, List.getElem?_toArray, List.getElem?_cons_succ, List.getElem?_cons_zero, Option.getD_some] at hs0
      clear hs
      clear hbs
      clear hp
      have cx := k0 wx hf
      clear hf
      go_simp
      try dsimp only
      refine hK.out _ _ ?_ ?_
      · change Fr [] _ _
        (repeat (first | with_reducible (first | exact Fr.refl _ _ | assumption | refine Fr.drew ?_ | refine Fr.drewN ?_ _ | refine Fr.alloc ?_ _ | refine Fr.setL ?_ _ _ _ ?_) | (left; simp; done) | (right; first | (simp; done) | (simp; omega) | omega)); done)
      · simp only [nth]
        first | (unfold Is; rfl) | (unfold Any; exact trivial) | exact IsSl.new _ _ _ _ | assumption
    · intro ac wx hf hbs hs hp K hK
      simp only [zA, Region.binds, Nat.reduceAdd] at hp
      have hs1 := hs 1 (by kernel_rfl)
      simp only [Array.getD_eq_getD_getElem?, List.getElem?_toArray, List.getElem?_cons_succ, List.getElem?_cons_zero, Option.getD_some] at hs1
      clear hs
      clear hbs
      clear hp
      have cx := k1 wx hf
      clear hf
      go_simp
      try dsimp only
      refine hK.out _ _ ?_ ?_
      · change Fr [] _ _
        (repeat (first | with_reducible (first | exact Fr.refl _ _ | assumption | refine Fr.drew ?_ | refine Fr.drewN ?_ _ | refine Fr.alloc ?_ _ | refine Fr.setL ?_ _ _ _ ?_) | (left; simp; done) | (right; first | (simp; done) | (simp; omega) | omega)); done)
      · simp only [nth]
        first | (unfold Is; rfl) | (unfold Any; exact trivial) | exact IsSl.new _ _ _ _ | assumption
    · intro ac wx hf hbs hs hp K hK
      simp only [zA, Region.binds, Nat.reduceAdd] at hp
      have hs0 := hs 0 (by kernel_rfl)
      simp only [Array.getD_eq_getD_getElem?, List.getElem?_toArray, List.getElem?_cons_succ, List.getElem?_cons_zero, Option.getD_some] at hs0
      clear hs
      clear hbs
      clear hp
      have cx := k0 wx hf
      clear hf
      go_simp
      try dsimp only
      refine hK.out _ _ ?_ ?_
      · change Fr [] _ _
        (repeat (first | with_reducible (first | exact Fr.refl _ _ | assumption | refine Fr.drew ?_ | refine Fr.drewN ?_ _ | refine Fr.alloc ?_ _ | refine Fr.setL ?_ _ _ _ ?_) | (left; simp; done) | (right; first | (simp; done) | (simp; omega) | omega)); done)
      · simp only [nth]
        first | (unfold Is; rfl) | (unfold Any; exact trivial) | exact IsSl.new _ _ _ _ | assumption
    · intro ac wx hf hbs hs hp K hK
      simp only [zA, Region.binds, Nat.reduceAdd] at hp
      clear hs
      clear hbs
      have h2 := hp
      clear hp
      clear hf
      (try simp only [h2])
      go_simp
      try dsimp only
      refine hK.out _ _ ?_ ?_
      · change Fr [] _ _
        (repeat (first | with_reducible (first | exact Fr.refl _ _ | assumption | refine Fr.drew ?_ | refine Fr.drewN ?_ _ | refine Fr.alloc ?_ _ | refine Fr.setL ?_ _ _ _ ?_) | (left; simp; done) | (right; first | (simp; done) | (simp; omega) | omega)); done)
      · simp only [nth]
        first | (unfold Is; rfl) | (unfold Any; exact trivial) | exact IsSl.new _ _ _ _ | assumption
    · intro ac wx hf hbs hs hp K hK
      simp only [zA, Region.binds, Nat.reduceAdd] at hp
      clear hs
      clear hbs
      have h3 := hp
      clear hp
      clear hf
      (try simp only [h3])
      go_simp
      try dsimp only
      refine hK.out _ _ ?_ ?_
      · change Fr [] _ _
        (repeat (first | with_reducible (first | exact Fr.refl _ _ | assumption | refine Fr.drew ?_ | refine Fr.drewN ?_ _ | refine Fr.alloc ?_ _ | refine Fr.setL ?_ _ _ _ ?_) | (left; simp; done) | (right; first | (simp; done) | (simp; omega) | omega)); done)
      · simp only [nth]
        first | (unfold Is; rfl) | (unfold Any; exact trivial) | exact IsSl.new _ _ _ _ | assumption
    · intro ac wx hf hbs hs hp K hK
      simp only [zA, Region.binds, Nat.reduceAdd] at hp
      clear hs
      clear hbs
      have h4 := hp
      clear hp
      have hv3 := (HT.out.fr0 hf).v3
      clear hf
      (try simp only [h4])
      go_simp
      go_at_call 60
      refine (vars_Vr v.t (m.cells v) m.vs m.vr m.va wx hv3).mono ?_
      rintro e w' ⟨rfl, fz⟩
      exact hK.out _ _ fz rfl
    · intro ac wx hf hbs hs hp K hK
      simp only [zA, Region.binds, Nat.reduceAdd] at hp
      clear hs
      clear hbs
      obtain ⟨h1, h5⟩ := hp
      clear hf
      (try simp only [h1, h5])
      go_simp
      try dsimp only
      refine hK.out _ _ ?_ ?_
      · change Fr [] _ _
        (repeat (first | with_reducible (first | exact Fr.refl _ _ | assumption | refine Fr.drew ?_ | refine Fr.drewN ?_ _ | refine Fr.alloc ?_ _ | refine Fr.setL ?_ _ _ _ ?_) | (left; simp; done) | (right; first | (simp; done) | (simp; omega) | omega)); done)
      · simp only [nth]
        first | (unfold Is; rfl) | (unfold Any; exact trivial) | exact IsSl.new _ _ _ _ | assumption
  case hD =>
    intro xv wx hf hp
    simp only [List.take_succ_cons, List.take_zero, List.drop_succ_cons, List.drop_zero, fill, List.setIfInBounds_toArray, List.set_cons_zero, List.set_cons_succ, Nat.reduceAdd, Act.put]
    rw [show live 7 (deadC [none, none, none, none, none, none, none]) = [0, 1, 2, 3, 4, 5, 6] from by decide] at hp
    simp only [holds, nth, Is, Any, true_and, and_true] at hp
    obtain ⟨p0, p1, p2, p3, p4, p5, p6⟩ := hp
    simp only [p0, p6]
    have hB : Bts 0 wx Sl.nil (askD m kind).info := Bts.nil _ _
    have hT2 := HT.out.fr0 hf
    have HS := Lib.hid (tie_send wx v m (askD m kind) Sl.nil hT2 hB hs)
    have HF := Lib.hid hf
    clear hB hT2 hf p0 p1 p2 p3 p4 p5 p6 k0 k1
    go_wp2_with fail
    refine HS.out.mono ?_
    rintro e w2 ⟨rfl, ht⟩
    obtain ⟨v2, h2, et, ep, f2, n2⟩ := TieTo.trans (HF.out.mono (by simp)) (fun x hx => .inl hx) rfl rfl ht
    have hc0 := f2.cell h0 hb0
    have c15 := h2.c15
    rw [et] at c15
    have H2 := Lib.hid h2
    have HQ := Lib.hid (And.intro f2 (And.intro n2 (And.intro et ep)))
    clear ht h2 f2 n2 et ep
    go_wp2_with fail
    refine (clk_Stop w2 v2.c v2.cl 4 v2.now m.tm 29 H2.out.clk hl).mono ?_
    rintro e w3 ⟨rfl, hc⟩
    have HFIN := Lib.hid (TieTo.trans HQ.out.1 HQ.out.2.1 HQ.out.2.2.1 HQ.out.2.2.2 (H2.out.setClk hc))
    clear hc c15 hc0
    go_wp2
    go_end0
    exact ⟨rfl, HFIN.out⟩

end Go.Proofs.YtneggoonlmmjeaaGreat
namespace Go.Proofs.YtneggoonlmmjeaaGreat
open Go.RowKit Go.Shelf
set_option linter.unusedVariables false
set_option linter.unusedSimpArgs false
set_option maxRecDepth 100000

theorem mk_command (w : World) (t : Nat) (kind : Int) :
    Calls Tryz.prog 146 #[.pointer (some ⟨t, 0, none⟩), .int .i64 kind] w fun e w' => e = .returned (.func (.func 187) #[] #[.pointer (some ⟨w.heap.size, 0, none⟩), .pointer (some ⟨w.heap.size + 1, 0, none⟩)]) ∧ w' = (w.alloc (.cells #[.pointer (some ⟨t, 0, none⟩)] 26)).alloc (.cells #[.int .i64 kind] 3) := by
  go_enter Tryz.func146, Tryz.ntmps146
  go_wp2
  go_ret
  exact ⟨rfl, rfl⟩

theorem mk_response (w : World) (t : Nat) (kind : Int) :
    Calls Tryz.prog 147 #[.pointer (some ⟨t, 0, none⟩), .int .i64 kind] w fun e w' => e = .returned (.func (.func 190) #[] #[.pointer (some ⟨w.heap.size, 0, none⟩), .pointer (some ⟨w.heap.size + 1, 0, none⟩)]) ∧ w' = (w.alloc (.cells #[.pointer (some ⟨t, 0, none⟩)] 26)).alloc (.cells #[.int .i64 kind] 3) := by
  go_enter Tryz.func147, Tryz.ntmps147
  go_wp2
  go_ret
  exact ⟨rfl, rfl⟩

theorem mk_say (w : World) (t : Nat) (kind : Int) :
    Calls Tryz.prog 149 #[.pointer (some ⟨t, 0, none⟩), .int .i64 kind] w fun e w' => e = .returned (.func (.func 193) #[] #[.pointer (some ⟨w.heap.size, 0, none⟩), .pointer (some ⟨w.heap.size + 1, 0, none⟩)]) ∧ w' = (w.alloc (.cells #[.pointer (some ⟨t, 0, none⟩)] 26)).alloc (.cells #[.int .i64 kind] 3) := by
  go_enter Tryz.func149, Tryz.ntmps149
  go_wp2
  go_ret
  exact ⟨rfl, rfl⟩

theorem mk_stop (w : World) (t : Nat) (kind : Int) :
    Calls Tryz.prog 153 #[.pointer (some ⟨t, 0, none⟩), .int .i64 kind] w fun e w' => e = .returned (.func (.func 201) #[] #[.pointer (some ⟨w.heap.size, 0, none⟩), .pointer (some ⟨w.heap.size + 1, 0, none⟩)]) ∧ w' = (w.alloc (.cells #[.pointer (some ⟨t, 0, none⟩)] 26)).alloc (.cells #[.int .i64 kind] 3) := by
  go_enter Tryz.func153, Tryz.ntmps153
  go_wp2
  go_ret
  exact ⟨rfl, rfl⟩

theorem mk_ask (w : World) (t : Nat) (kind : Int) :
    Calls Tryz.prog 159 #[.pointer (some ⟨t, 0, none⟩), .int .i64 kind] w fun e w' => e = .returned (.func (.func 211) #[] #[.pointer (some ⟨w.heap.size, 0, none⟩), .pointer (some ⟨w.heap.size + 1, 0, none⟩)]) ∧ w' = (w.alloc (.cells #[.pointer (some ⟨t, 0, none⟩)] 26)).alloc (.cells #[.int .i64 kind] 3) := by
  go_enter Tryz.func159, Tryz.ntmps159
  go_wp2
  go_ret
  exact ⟨rfl, rfl⟩

theorem mk_peer (w : World) (t : Nat) (f : Bool) :
    Calls Tryz.prog 156 #[.pointer (some ⟨t, 0, none⟩), .bool f] w fun e w' => e = .returned (.func (.func 207) #[] #[.pointer (some ⟨w.heap.size + 1, 0, none⟩), .pointer (some ⟨w.heap.size, 0, none⟩)]) ∧ w' = (w.alloc (.cells #[.pointer (some ⟨t, 0, none⟩)] 26)).alloc (.cells #[.bool f] 4) := by
  go_enter Tryz.func156, Tryz.ntmps156
  go_wp2
  go_ret
  exact ⟨rfl, rfl⟩

theorem mk_status (w : World) (t : Nat) (kind : Int) (f : Bool) :
    Calls Tryz.prog 158 #[.pointer (some ⟨t, 0, none⟩), .int .i64 kind, .bool f] w fun e w' => e = .returned (.func (.func 210) #[] #[.pointer (some ⟨w.heap.size, 0, none⟩), .pointer (some ⟨w.heap.size + 1, 0, none⟩), .pointer (some ⟨w.heap.size + 2, 0, none⟩)]) ∧ w' = ((w.alloc (.cells #[.pointer (some ⟨t, 0, none⟩)] 26)).alloc (.cells #[.int .i64 kind] 3)).alloc (.cells #[.bool f] 4) := by
  go_enter Tryz.func158, Tryz.ntmps158
  go_wp2
  go_ret
  exact ⟨rfl, rfl⟩

/-- A timer stops. -/
def stopM (m : TM) (k : Int) : TM := { m with tm := tstop m.tm k }
theorem tie_stop1 (w : World) (v : TV) (m : TM) (k : Int) (b0 b1 : Nat) (h : IsTie w v m) (h0 : w.cell? ⟨b0, 0, none⟩ = some (.pointer (some ⟨v.t, 0, none⟩))) (h1 : w.cell? ⟨b1, 0, none⟩ = some (.int .i64 k)) (hl : m.tm.length ≤ 1000) :
    Calls Tryz.prog 201 #[.pointer (some ⟨b0, 0, none⟩), .pointer (some ⟨b1, 0, none⟩)] w fun e w' => e = .returned (.tuple #[]) ∧ TieTo w w' v (stopM m k) := by
  have c15 := h.c15
  have H := Lib.hid h
  have k0 : ∀ wx, Fr [] w wx → wx.cell? ⟨b0, 0, none⟩ = some (.pointer (some ⟨v.t, 0, none⟩)) := fun wx hf => hf.cell h0 (by simp)
  have k1 : ∀ wx, Fr [] w wx → wx.cell? ⟨b1, 0, none⟩ = some (.int .i64 k) := fun wx hf => hf.cell h1 (by simp)
  have k15 : ∀ wx, Fr [] w wx → wx.cell? ⟨v.t, 15, none⟩ = some (.pointer (some ⟨v.c, 0, none⟩)) := fun wx hf => hf.cell c15 (by simp)
  clear h
  go_enter Tryz.func201, Tryz.ntmps201
  go_wp2
  refine wp_region_keepsC [] [false, false, false, false, false] [none, none, none, none, none] (fun _ => True) [Is (.pointer (some ⟨v.t, 0, none⟩)), Is (.pointer (some ⟨v.t, 0, none⟩)), Is (.pointer (some ⟨v.t, 15, none⟩)), Is (.pointer (some ⟨v.c, 0, none⟩)), Is (.int .i64 k)] 5 (by kernel_rfl) (by kernel_rfl) (by kernel_rfl) (by kernel_rfl) (by kernel_rfl) (by kernel_rfl) (by kernel_rfl) (by kernel_rfl) ?hV (fun _ _ _ h => h) trivial ?hS ?hD
  case hV =>
    repeat (first | exact trivial | exact Is.keepsN _ | exact Any.keepsN | refine And.intro ?_ ?_)
  case hS =>
    (repeat' (first | exact trivial | refine And.intro ?_ ?_))
    · intro ac wx hf hbs hs hp K hK
      simp only [zA, Region.binds, Nat.reduceAdd] at hp
      have hs0 := hs 0 (by kernel_rfl)
      simp only [Array.getD_eq_getD_getElem?, List.getElem?_toArray, List.getElem?_cons_succ, List.getElem?_cons_zero, Option.getD_some] at hs0
      clear hs
      clear hbs
      clear hp
      have cx := k0 wx hf
      clear hf
      go_simp
      try dsimp only
      refine hK.out _ _ ?_ ?_
      · change Fr [] _ _
        (repeat (first | with_reducible (first | exact Fr.refl _ _ | assumption | refine Fr.drew ?_ | refine Fr.drewN ?_ _ | refine Fr.alloc ?_ _ | refine Fr.setL ?_ _ _ _ ?_) | (left; simp; done) | (right; first | (simp; done) | (simp; omega) | omega)); done)
      · simp only [nth]
        first | (unfold Is; rfl) | (unfold Any; exact trivial) | exact IsSl.new _ _ _ _ | assumption
    · intro ac wx hf hbs hs hp K hK
      simp only [zA, Region.binds, Nat.reduceAdd] at hp
      clear hs
      clear hbs
      have h0 := hp
      clear hp
      clear hf
      (try simp only [h0])
      go_simp
      try dsimp only
      refine hK.out _ _ ?_ ?_
      · change Fr [] _ _
        (repeat (first | with_reducible (first | exact Fr.refl _ _ | assumption | refine Fr.drew ?_ | refine Fr.drewN ?_ _ | refine Fr.alloc ?_ _ | refine Fr.setL ?_ _ _ _ ?_) | (left; simp; done) | (right; first | (simp; done) | (simp; omega) | omega)); done)
      · simp only [nth]
        first | (unfold Is; rfl) | (unfold Any; exact trivial) | exact IsSl.new _ _ _ _ | assumption
    · intro ac wx hf hbs hs hp K hK
      simp only [zA, Region.binds, Nat.reduceAdd] at hp
      clear hs
      clear hbs
      have h1 := hp
      clear hp
      clear hf
      (try simp only [h1])
      go_simp
      try dsimp only
      refine hK.out _ _ ?_ ?_
      · change Fr [] _ _
        (repeat (first | with_reducible (first | exact Fr.refl _ _ | assumption | refine Fr.drew ?_ | refine Fr.drewN ?_ _ | refine Fr.alloc ?_ _ | refine Fr.setL ?_ _ _ _ ?_) | (left; simp; done) | (right; first | (simp; done) | (simp; omega) | omega)); done)
      · simp only [nth]
        first | (unfold Is; rfl) | (unfold Any; exact trivial) | exact IsSl.new _ _ _ _ | assumption
    · intro ac wx hf hbs hs hp K hK
      simp only [zA, Region.binds, Nat.reduceAdd] at hp
      clear hs
      clear hbs
      have h2 := hp
      clear hp
      have cx := k15 wx hf
      clear hf
      (try simp only [h2])
      go_simp
      try dsimp only
      refine hK.out _ _ ?_ ?_
      · change Fr [] _ _
        (repeat (first | with_reducible (first | exact Fr.refl _ _ | assumption | refine Fr.drew ?_ | refine Fr.drewN ?_ _ | refine Fr.alloc ?_ _ | refine Fr.setL ?_ _ _ _ ?_) | (left; simp; done) | (right; first | (simp; done) | (simp; omega) | omega)); done)
      · simp only [nth]
        first | (unfold Is; rfl) | (unfold Any; exact trivial) | exact IsSl.new _ _ _ _ | assumption
    · intro ac wx hf hbs hs hp K hK
      simp only [zA, Region.binds, Nat.reduceAdd] at hp
      have hs1 := hs 1 (by kernel_rfl)
      simp only [Array.getD_eq_getD_getElem?, List.getElem?_toArray, List.getElem?_cons_succ, List.getElem?_cons_zero, Option.getD_some] at hs1
      clear hs
      clear hbs
      clear hp
      have cx := k1 wx hf
      clear hf
      go_simp
      try dsimp only
      refine hK.out _ _ ?_ ?_
      · change Fr [] _ _
        (repeat (first | with_reducible (first | exact Fr.refl _ _ | assumption | refine Fr.drew ?_ | refine Fr.drewN ?_ _ | refine Fr.alloc ?_ _ | refine Fr.setL ?_ _ _ _ ?_) | (left; simp; done) | (right; first | (simp; done) | (simp; omega) | omega)); done)
      · simp only [nth]
        first | (unfold Is; rfl) | (unfold Any; exact trivial) | exact IsSl.new _ _ _ _ | assumption
  case hD =>
    intro xv wx hf hp
    simp only [List.take_succ_cons, List.take_zero, List.drop_succ_cons, List.drop_zero, fill, List.setIfInBounds_toArray, List.set_cons_zero, List.set_cons_succ, Nat.reduceAdd, Act.put]
    rw [show live 5 (deadC [none, none, none, none, none]) = [0, 1, 2, 3, 4] from by decide] at hp
    simp only [holds, nth, Is, Any, true_and, and_true] at hp
    obtain ⟨p0, p1, p2, p3, p4⟩ := hp
    simp only [p3, p4]
    have HK := Lib.hid (clk_Stop wx v.c v.cl 4 v.now m.tm k (H.out.fr0 hf).clk hl)
    have HF := Lib.hid hf
    clear p0 p1 p2 p3 p4 k0 k1 k15 hf
    go_wp2_with fail
    refine HK.out.mono ?_
    rintro e w2 ⟨rfl, hc⟩
    have HFIN := Lib.hid (TieTo.trans (HF.out.mono (by simp)) (fun x hx => .inl hx) rfl rfl ((H.out.fr0 HF.out).setClk hc))
    clear hc
    go_wp2
    go_end0
    exact ⟨rfl, HFIN.out⟩

/-- It tried once more. -/
def retryM (m : TM) : TM := { m with retries := m.retries + 1 }
theorem tie_retry1 (w : World) (v : TV) (m : TM) (b0 : Nat) (h : IsTie w v m) (h0 : w.cell? ⟨b0, 0, none⟩ = some (.pointer (some ⟨v.t, 0, none⟩))) (hr : 0 ≤ m.retries ∧ m.retries ≤ 1000000) :
    Calls Tryz.prog 161 #[.pointer (some ⟨b0, 0, none⟩)] w fun e w' => e = .returned (.tuple #[]) ∧ TieTo w w' v (retryM m) := by
  have hw : IntKind.i64.wrap (m.retries + 1) = m.retries + 1 := IntWalk.i64_in _ (by omega)
  have c18 := h.c18
  have z18 := h.z 18
  obtain ⟨h2, f2⟩ := h.set1 18 (.int .i64 (m.retries + 1)) (retryM m) rfl rfl
  have HFIN := Lib.hid (h2.toT f2)
  clear h h2 f2
  go_enter Tryz.func161, Tryz.ntmps161
  go_wp2
  go_end0
  exact ⟨rfl, HFIN.out⟩

/-- The other one is busy, or not. -/
def peerM (m : TM) (f : Bool) : TM := if f then { m with busy := true } else { m with busy := false, tm := tstop m.tm 32 }
theorem tie_peer1 (w : World) (v : TV) (m : TM) (f : Bool) (b0 b1 : Nat) (h : IsTie w v m) (h0 : w.cell? ⟨b0, 0, none⟩ = some (.bool f)) (h1 : w.cell? ⟨b1, 0, none⟩ = some (.pointer (some ⟨v.t, 0, none⟩))) (hb0 : b0 ∉ v.foot) (hb1 : b1 ∉ v.foot) (hl : m.tm.length ≤ 1000) :
    Calls Tryz.prog 207 #[.pointer (some ⟨b0, 0, none⟩), .pointer (some ⟨b1, 0, none⟩)] w fun e w' => e = .returned (.tuple #[]) ∧ TieTo w w' v (peerM m f) := by
  obtain ⟨h2, f2⟩ := h.set1 19 (.bool f) { m with busy := f } rfl rfl
  have z19 := h.z 19
  have c19 := h.c19
  have h0' := f2.cell h0 (by simp; intro e; exact hb0 (e ▸ v.t_foot))
  have h1' := f2.cell h1 (by simp; intro e; exact hb1 (e ▸ v.t_foot))
  have c15 := h2.c15
  have F2 := Lib.hid (h2.toT f2)
  have FF := Lib.hid f2
  have H2 := Lib.hid h2
  have mixed := mixed_
  clear h h2 f2
  cases f with
  | true =>
    go_enter Tryz.func207, Tryz.ntmps207
    go_wp2
    go_end0
    exact ⟨rfl, F2.out⟩
  | false =>
    go_enter Tryz.func207, Tryz.ntmps207
    go_wp2_with fail
    refine (clk_Stop _ v.c v.cl 4 v.now m.tm 32 H2.out.clk hl).mono ?_
    rintro e w2 ⟨rfl, hc⟩
    have HFIN := Lib.hid (TieTo.trans FF.out.foot (fun x hx => .inl hx) rfl rfl (H2.out.setClk hc))
    clear hc
    go_wp2
    go_end0
    exact ⟨rfl, HFIN.out⟩

end Go.Proofs.YtneggoonlmmjeaaGreat
namespace Go.Proofs.YtneggoonlmmjeaaGreat
open Go.RowKit Go.Shelf
set_option linter.unusedVariables false
set_option linter.unusedSimpArgs false
set_option maxRecDepth 100000

section numbers
attribute [local go_sem] fld0 fld1 fld2

theorem vars_Acked_low (b : Nat) (cs : Array Value) (s r a n : Int) (w : World) (h : IsV w b cs s r a) (hn : n < 0) :
    Calls Tryz.prog 203 #[.pointer (some ⟨b, 10, none⟩), .int .i64 n] w fun e w' =>
      e = .returned (.int .i64 (-1)) ∧ IsV w' b cs s r a ∧ Fr [b] w w' := by
  go_enter Tryz.func203, Tryz.ntmps203
  go_wp2
  go_quiet (fail)
  go_wp2
  go_ret
  exact ⟨rfl, h, (Fr.refl _ _).drewN _⟩

theorem vars_Acked_high (b : Nat) (cs : Array Value) (s r a n : Int) (w : World) (h : IsV w b cs s r a) (hn : 127 < n) :
    Calls Tryz.prog 203 #[.pointer (some ⟨b, 10, none⟩), .int .i64 n] w fun e w' =>
      e = .returned (.int .i64 (-1)) ∧ IsV w' b cs s r a ∧ Fr [b] w w' := by
  have h1 : ¬ n < 0 := by omega
  have h2 : decide (n < 0) = false := by simpa using h1
  have h3 : 128 ≤ n := by omega
  go_enter Tryz.func203, Tryz.ntmps203
  go_wp2
  go_quiet (fail)
  go_wp2
  go_ret
  exact ⟨rfl, h, (Fr.refl _ _).drewN _⟩

theorem vars_Acked_yes (b : Nat) (cs : Array Value) (s r a n : Int) (w : World) (h : IsV w b cs s r a) (hn0 : 0 ≤ n) (hn1 : n ≤ 127) (hin : (n - a) % 128 ≤ (s - a) % 128) :
    Calls Tryz.prog 203 #[.pointer (some ⟨b, 10, none⟩), .int .i64 n] w fun e w' =>
      e = .returned (.int .i64 ((n - a) % 128)) ∧ IsV w' b cs s r n ∧ Fr [b] w w' := by
  have h2 : decide (n < 0) = false := by simp; omega
  have h3 : decide (128 ≤ n) = false := by simp; omega
  have c0 := After.cell h.c0
  have c2 := After.cell h.c2
  have hd : decide ((n - a) % 128 ≤ (s - a) % 128) = true := decide_eq_true hin
  go_enter Tryz.func203, Tryz.ntmps203
  go_wp2
  refine wp_region_after (by kernel_rfl) (by kernel_rfl) ?_
  repeat (go_big_quiet_step ((go_at_call 168; exact Calls.after (seq_In _ _ _ _))))
  refine wpQuiet_nil ?_
  rintro _ ⟨⟨w1, w1f⟩, rfl⟩
  clear c0 c2
  have h1 := h.fr w1f (by simp)
  have c2 := h1.c2
  have f2 := h1.f 12
  go_wp2_with fail
  refine (seq_Dist _ _ _).mono ?_
  rintro e w2 ⟨rfl, f3⟩
  have h4 := h1.fr f3 (by simp)
  clear c2 f2
  have c2 := h4.c2
  have f2 := h4.f 12
  go_wp2
  go_ret
  exact ⟨rfl, h4.s2 _, ((w1f.tr f3).to1 b).set1 _ _⟩

theorem vars_Acked_no (b : Nat) (cs : Array Value) (s r a n : Int) (w : World) (h : IsV w b cs s r a) (hn0 : 0 ≤ n) (hn1 : n ≤ 127) (hin : ¬ (n - a) % 128 ≤ (s - a) % 128) :
    Calls Tryz.prog 203 #[.pointer (some ⟨b, 10, none⟩), .int .i64 n] w fun e w' =>
      e = .returned (.int .i64 (-1)) ∧ IsV w' b cs s r a ∧ Fr [b] w w' := by
  have h2 : decide (n < 0) = false := by simp; omega
  have h3 : decide (128 ≤ n) = false := by simp; omega
  have c0 := After.cell h.c0
  have c2 := After.cell h.c2
  have hd : decide ((n - a) % 128 ≤ (s - a) % 128) = false := decide_eq_false hin
  go_enter Tryz.func203, Tryz.ntmps203
  go_wp2
  refine wp_region_after (by kernel_rfl) (by kernel_rfl) ?_
  repeat (go_big_quiet_step ((go_at_call 168; exact Calls.after (seq_In _ _ _ _))))
  refine wpQuiet_nil ?_
  rintro _ ⟨⟨w1, w1f⟩, rfl⟩
  clear c0 c2
  go_wp2
  go_ret
  exact ⟨rfl, h.fr w1f (by simp), w1f.to1 b⟩

/-- All ways in one: what is acknowledged. -/
def ackN (s a n : Int) : Int := if 0 ≤ n ∧ n ≤ 127 ∧ (n - a) % 128 ≤ (s - a) % 128 then (n - a) % 128 else -1
def ackA (s a n : Int) : Int := if 0 ≤ n ∧ n ≤ 127 ∧ (n - a) % 128 ≤ (s - a) % 128 then n else a
theorem vars_Acked (b : Nat) (cs : Array Value) (s r a n : Int) (w : World) (h : IsV w b cs s r a) :
    Calls Tryz.prog 203 #[.pointer (some ⟨b, 10, none⟩), .int .i64 n] w fun e w' =>
      e = .returned (.int .i64 (ackN s a n)) ∧ IsV w' b cs s r (ackA s a n) ∧ Fr [b] w w' := by
  unfold ackN ackA
  by_cases h1 : n < 0
  · rw [if_neg (by omega), if_neg (by omega)]; exact vars_Acked_low b cs s r a n w h h1
  · by_cases h2 : 127 < n
    · rw [if_neg (by omega), if_neg (by omega)]; exact vars_Acked_high b cs s r a n w h h2
    · by_cases h3 : (n - a) % 128 ≤ (s - a) % 128
      · rw [if_pos ⟨by omega, by omega, h3⟩, if_pos ⟨by omega, by omega, h3⟩]; exact vars_Acked_yes b cs s r a n w h (by omega) (by omega) h3
      · rw [if_neg (by omega), if_neg (by omega)]; exact vars_Acked_no b cs s r a n w h (by omega) (by omega) h3

end numbers

section window
attribute [local go_sem] Oper.semAt_some
/-- Block b is three numbers: how wide at most, how wide, what is counted. -/
def Is3 (t : TypeId) (w : World) (b : Nat) (s r a : Int) : Prop := Blk w b #[.int .i64 s, .int .i64 r, .int .i64 a] t
abbrev IsWn := Is3 139

theorem Is3.c0 {t : TypeId} {w : World} {b : Nat} {s r a : Int} (h : Is3 t w b s r a) : w.cell? ⟨b, 0, none⟩ = some (.int .i64 s) := Blk.cell h 0 rfl
theorem Is3.c1 {t : TypeId} {w : World} {b : Nat} {s r a : Int} (h : Is3 t w b s r a) : w.cell? ⟨b, 1, none⟩ = some (.int .i64 r) := Blk.cell h 1 rfl
theorem Is3.c2 {t : TypeId} {w : World} {b : Nat} {s r a : Int} (h : Is3 t w b s r a) : w.cell? ⟨b, 2, none⟩ = some (.int .i64 a) := Blk.cell h 2 rfl
theorem Is3.f {t : TypeId} {w : World} {b : Nat} {s r a : Int} (h : Is3 t w b s r a) (i : Nat) : w.frozen? ⟨b, i, none⟩ = false := Blk.free h i
theorem Is3.fr {t : TypeId} {w w' : World} {b : Nat} {s r a : Int} (h : Is3 t w b s r a) {L : List Nat} (k : Fr L w w') (hn : b ∉ L) : Is3 t w' b s r a := Blk.fr h k hn
theorem Is3.al {t : TypeId} {w : World} {b : Nat} {s r a : Int} (h : Is3 t w b s r a) (o : Obj) : Is3 t (w.alloc o) b s r a := Blk.alloc h o
theorem Is3.s0 {t : TypeId} {w : World} {b : Nat} {s r a : Int} (h : Is3 t w b s r a) (x : Int) : Is3 t (w.setCell ⟨b, 0, none⟩ (.int .i64 x)) b x r a := Blk.set h 0 _ rfl
theorem Is3.s1 {t : TypeId} {w : World} {b : Nat} {s r a : Int} (h : Is3 t w b s r a) (x : Int) : Is3 t (w.setCell ⟨b, 1, none⟩ (.int .i64 x)) b s x a := Blk.set h 1 _ rfl
theorem Is3.s2 {t : TypeId} {w : World} {b : Nat} {s r a : Int} (h : Is3 t w b s r a) (x : Int) : Is3 t (w.setCell ⟨b, 2, none⟩ (.int .i64 x)) b s r x := Blk.set h 2 _ rfl
theorem win_steps (b : Nat) (n : Int) (w : World) :
    Calls Tryz.prog 234 #[.pointer (some ⟨b, 0, none⟩), .int .i64 n] w fun e w' =>
      e = .returned (.func (.func 244) #[] #[.pointer (some ⟨w.heap.size + 1, 0, none⟩), .pointer (some ⟨w.heap.size, 0, none⟩)]) ∧
      w' = (w.alloc (.cells #[.pointer (some ⟨b, 0, none⟩)] 90)).alloc (.cells #[.int .i64 n] 3) := by
  go_enter Tryz.func234, Tryz.ntmps234
  go_wp2
  go_ret
  exact ⟨rfl, rfl⟩

/-- How a window opens by one that came through. -/
structure WS where
  d : Int
  c : Int
  i : Int
def WS.next (s : WS) : WS := if s.c + 1 = s.d then ⟨s.d + 1, 0, s.i + 1⟩ else ⟨s.d, s.c + 1, s.i + 1⟩
theorem WS.next_i (s : WS) : s.next.i = s.i + 1 := by unfold WS.next; split <;> rfl

def WCore (m n : Int) (b Bn Bp : Nat) (s : WS) (W : World) : Prop :=
  IsWn W b m s.d s.c ∧ Blk W Bn #[.int .i64 n] 3 ∧ Blk W Bp #[.pointer (some ⟨b, 0, none⟩)] 90

set_option maxHeartbeats 1000000 in
theorem win_iter (m n : Int) (b Bn Bp : Nat) (hn : n ≤ 4611686018427387904) (l : Nat) (J : WS → World → Prop) (hJ : ∀ s W, J s W → WCore m n b Bn Bp s W) (hd : ∀ s W k, J s W → J s (W.drewN k))
    (hY : ∀ s W, J s W → (s.i < n ∧ s.d < m) → YieldAt Fence.wide 0 Tryz.prog l #[.int .i64 s.i] W fun e W' => e = .returned (.bool true) ∧ J s.next W') (s0 : WS) (hs0 : s0.i = 0) (W : World) (h0 : J s0 W) :
    CallsIn Fence.wide 0 Tryz.prog 244 #[.func (.yield l) #[] #[], .pointer (some ⟨Bn, 0, none⟩), .pointer (some ⟨Bp, 0, none⟩)] W fun e W' => (∃ v, e = .returned v) ∧ ∃ s : WS, ¬ (s.i < n ∧ s.d < m) ∧ J s W' := by
  refine callsIn_of_wp Tryz.func244 rfl trivial ?_ rfl
  simp only [Tryz.ntmps244, List.size_toArray, List.length_cons, List.length_nil, Nat.reduceAdd, Nat.reduceSub, Array.replicate_succ, Array.replicate_zero, List.push_toArray, List.append_toArray, List.nil_append, List.cons_append]
  gi_wp2
  gi_loopw [4] (fun i wr => ∃ s : WS, i = .int .i64 s.i ∧ 0 ≤ s.i ∧ J s wr) (fun i _ => (n - intOf i).toNat)
  case atStart => exact ⟨s0, by rw [hs0], by omega, h0⟩
  case round =>
    obtain ⟨s, rfl, hi, hj⟩ := hrel
    obtain ⟨hw, hbn, hbp⟩ := hJ s wr hj
    have cn := hbn.cell 0 rfl
    have cp := hbp.cell 0 rfl
    have c0 := hw.c0
    have c1 := hw.c1
    simp only [List.getElem_toArray, List.getElem_cons_zero] at cn cp
    by_cases h1 : s.i < n
    · by_cases h2 : s.d < m
      · have d1 : decide (s.i < n) = true := by simpa using h1
        have d2 : decide (s.d < m) = true := by simpa using h2
        gi_wp2
        refine wpIn_wide.2 ?_
        go_quiet (fail)
        obtain ⟨fn, tmps, assign, body, hy, hR⟩ := hY s (wr.drewN nq) (hd s wr nq hj) ⟨h1, h2⟩
        gi_wp2
        refine ⟨rfl, hR.mono ?_⟩
        rintro e W2 ⟨rfl, hJ2⟩
        gi_wp2
        go_roundw
        case rel => exact ⟨s.next, by rw [WS.next_i], by rw [WS.next_i]; omega, hJ2⟩
        case measure => simp [intOf]; omega
      · have d1 : decide (s.i < n) = true := by simpa using h1
        have d2 : decide (s.d < m) = false := by simpa using h2
        gi_wp2
        refine wpIn_wide.2 ?_
        go_quiet (fail)
        gi_wp2
        go_end0
        exact ⟨⟨_, rfl⟩, s, by omega, hd _ _ _ hj⟩
    · have d1 : decide (s.i < n) = false := by simpa using h1
      gi_wp2
      refine wpIn_wide.2 ?_
      go_quiet (fail)
      gi_wp2
      go_end0
      exact ⟨⟨_, rfl⟩, s, by omega, hd _ _ _ hj⟩
/-- So often as told, while it is not most wide. -/
def wfin (m n : Int) : Nat → WS → WS
  | 0, s => s
  | k + 1, s => if s.i < n ∧ s.d < m then wfin m n k s.next else s
def ackedW (m n d c : Int) : WS := wfin m n n.toNat ⟨d, c, 0⟩

theorem keepsDrewN {a w : World} (h : KeepsOthers a w) (n : Nat) : KeepsOthers a (w.drewN n) := ⟨h.size, fun k o hk ho => h.same k o hk ho⟩
theorem Blk.put {w : World} {b : Nat} {cs : Array Value} {t : TypeId} (h : Blk w b cs t) {l : Nat} {o : Obj} (o' : Obj) (ho : w.heap[l]? = some o) (hc : o.isCells = false) : Blk (w.putObj l o') b cs t := by
  have hne : b ≠ l := by
    intro e; subst e; rw [Blk] at h; rw [h] at ho; cases ho; cases hc
  rw [Blk, World.putObj_heap_other hne]; exact h
theorem Fr.put {L : List Nat} {a w : World} (h : Fr L a w) {l : Nat} (o' : Obj) (hl : a.heap.size ≤ l) : Fr L a (w.putObj l o') :=
  h.trans (M := [l]) ⟨rfl, rfl, rfl, by simp, fun k _ hn => World.putObj_heap_other (by simpa using hn)⟩ (fun x hx => by simp at hx; subst hx; exact .inr hl)

set_option maxRecDepth 100000 in
set_option maxHeartbeats 2000000 in
theorem win_Acked (b : Nat) (m d c n : Int) (w : World) (h : IsWn w b m d c) (hm : m ≤ 64) (hd0 : 0 ≤ d) (hc0 : 0 ≤ c) (hc1 : c ≤ 64) (hn : n ≤ 4611686018427387904) :
    Calls Tryz.prog 205 #[.pointer (some ⟨b, 0, none⟩), .int .i64 n] w fun e w' => e = .returned (.tuple #[]) ∧ IsWn w' b m (ackedW m n d c).d (ackedW m n d c).c ∧ Fr [b] w w' := by
  refine (callsIn_wide (n := 0)).1 ?_
  refine callsIn_of_wp_marks Tryz.func205 rfl trivial ?_ rfl
  simp only [Tryz.ntmps205, List.size_toArray, List.length_cons, List.length_nil, Nat.reduceAdd, Nat.reduceSub, Array.replicate_succ, Array.replicate_zero, List.push_toArray, List.append_toArray, List.nil_append, List.cons_append]
  refine wpIn_wide.2 ?_
  have hbx := Blk.new w #[.pointer (some ⟨b, 0, none⟩)] 90
  have hbl := h.lt
  go_wp2_with fail
  refine (win_steps _ _ _).mono ?_
  rintro e w1 ⟨rfl, rfl⟩
  go_wp2
  obtain ⟨R, hR⟩ : ∃ R, ackedW m n d c = R := ⟨_, rfl⟩
  have b1 := Blk.new (w.alloc (.cells #[.pointer (some ⟨b, 0, none⟩)] 90)) #[.pointer (some ⟨b, 0, none⟩)] 90
  have b2 := Blk.new ((w.alloc (.cells #[.pointer (some ⟨b, 0, none⟩)] 90)).alloc (.cells #[.pointer (some ⟨b, 0, none⟩)] 90)) #[.int .i64 n] 3
  simp only [World.size_alloc] at b1 b2
  have b0' := (hbx.alloc (.cells #[.pointer (some ⟨b, 0, none⟩)] 90)).alloc (.cells #[.int .i64 n] 3)
  have b1' := b1.alloc (.cells #[.int .i64 n] 3)
  have h' := ((h.al (.cells #[.pointer (some ⟨b, 0, none⟩)] 90)).al (.cells #[.pointer (some ⟨b, 0, none⟩)] 90)).al (.cells #[.int .i64 n] 3)
  have f' := ((((Fr.refl [b] w).alloc (.cells #[.pointer (some ⟨b, 0, none⟩)] 90)).alloc (.cells #[.pointer (some ⟨b, 0, none⟩)] 90)).alloc (.cells #[.int .i64 n] 3))
  have hsz : (((w.alloc (.cells #[.pointer (some ⟨b, 0, none⟩)] 90)).alloc (.cells #[.pointer (some ⟨b, 0, none⟩)] 90)).alloc (.cells #[.int .i64 n] 3)).heap.size = w.heap.size + 3 := by simp
  generalize (((w.alloc (.cells #[.pointer (some ⟨b, 0, none⟩)] 90)).alloc (.cells #[.pointer (some ⟨b, 0, none⟩)] 90)).alloc (.cells #[.int .i64 n] 3)) = W0 at *
  have ht : ackedW m n d c = wfin m n n.toNat ⟨d, c, 0⟩ := rfl
  have hR' : wfin m n (n - 0).toNat ⟨d, c, 0⟩ = R := by rw [← hR, ht]; congr 1; omega
  refine wp_rangeFunc_off (σ := WS) (gf := 244) (lb := #[.pointer (some ⟨w.heap.size + 1 + 1, 0, none⟩), .pointer (some ⟨w.heap.size + 1, 0, none⟩)]) rfl (enters_of Tryz.func244 (by kernel_rfl) rfl)
    (fun s W => WCore m n b (w.heap.size + 1 + 1) (w.heap.size + 1) s W ∧ Blk W w.heap.size #[.pointer (some ⟨b, 0, none⟩)] 90 ∧ wfin m n (n - s.i).toNat s = R ∧ (0 ≤ s.i ∧ 0 ≤ s.c ∧ s.c ≤ 64 + s.i ∧ 0 ≤ s.d) ∧ Fr [b] w W)
    ?hI ?hA ⟨d, c, 0⟩ ⟨⟨h', b2, b1'⟩, b0', hR', by simp; omega, f'⟩ (fun s => #[.int .i64 s.i]) (fun _ => rfl) (fun s => s.i < n ∧ s.d < m) WS.next ?iter ?drew
    (fun s => { tmps := #[.pointer (some ⟨b, 0, none⟩), .int .i64 n, .pointer (some ⟨w.heap.size, 0, none⟩), undef, .pointer (some ⟨b, 0, none⟩), .bool false, .pointer (some ⟨b, 0, none⟩), .int .i64 n, .func (.func 244) #[] #[.pointer (some ⟨w.heap.size + 1 + 1, 0, none⟩), .pointer (some ⟨w.heap.size + 1, 0, none⟩)], .int .i64 s.i, undef, undef, undef, undef, undef, undef, undef, undef, undef, undef, undef, undef, undef, undef, undef, undef, undef, undef, undef, undef, undef, undef, undef, undef, undef, undef, undef], defers := [] }) ?assign ?body ?done
  case hI =>
    rintro s W l o o' ⟨⟨i1, i2, i3⟩, i4, i5, i6, i7⟩ hl ho hc _
    exact ⟨⟨Blk.put i1 o' ho hc, Blk.put i2 o' ho hc, Blk.put i3 o' ho hc⟩, Blk.put i4 o' ho hc, i5, i6, i7.put o' (by omega)⟩
  case hA =>
    rintro s W o ⟨⟨i1, i2, i3⟩, i4, i5, i6, i7⟩
    exact ⟨⟨i1.al _, i2.alloc _, i3.alloc _⟩, i4.alloc _, i5, i6, i7.alloc _⟩
  case drew =>
    rintro s W k ⟨⟨i1, i2, i3⟩, i4, i5, i6, i7⟩
    exact ⟨⟨i1, i2, i3⟩, i4, i5, i6, i7.drewN k⟩
  case iter =>
    intro l J W hJ hd hY hj0
    exact win_iter m n b _ _ hn l J (fun s W h => (hJ s W h).1) hd (fun s W hj hmore => hY s W hj hmore) _ rfl W hj0
  case assign =>
    intro l s W K hK
    gi_wp2
    exact hK
  case body =>
    rintro l ⟨d', c', i'⟩ W ⟨⟨i1, i2, i3⟩, i4, i5, ⟨i60, i61, i62, i63⟩, i7⟩ ⟨hm1, hm2⟩
    simp only at i1 i5 i60 i61 i62 i63 hm1 hm2 ⊢
    have cp := i4.cell 0 rfl
    simp only [List.getElem_toArray, List.getElem_cons_zero] at cp
    have e1 := i1.c1
    have e2 := i1.c2
    have ef1 := i1.f 1
    have ef2 := i1.f 2
    have hbS : b ≠ w.heap.size := by omega
    have hbB1 : b ≠ w.heap.size + 1 := by omega
    have hbB2 : b ≠ w.heap.size + 1 + 1 := by omega
    gi_wp2
    have k1 := i1.s2 (c' + 1)
    have k2 := i2.far (p := ⟨b, 2, none⟩) (Ne.symm hbB2) (.int .i64 (c' + 1))
    have k3 := i3.far (p := ⟨b, 2, none⟩) (Ne.symm hbB1) (.int .i64 (c' + 1))
    have k4 := i4.far (p := ⟨b, 2, none⟩) (Ne.symm hbS) (.int .i64 (c' + 1))
    have k7 := i7.set1 2 (.int .i64 (c' + 1))
    have k8 : KeepsOthers W (W.setCell ⟨b, 2, none⟩ (.int .i64 (c' + 1))) := KeepsOthers.setCell _ _ _
    clear e1 e2 ef1 ef2 cp i1 i2 i3 i4 i7
    generalize W.setCell ⟨b, 2, none⟩ (.int .i64 (c' + 1)) = W1 at *
    have cp := k4.cell 0 rfl
    simp only [List.getElem_toArray, List.getElem_cons_zero] at cp
    have e1 := k1.c1
    have e2 := k1.c2
    have ef1 := k1.f 1
    have ef2 := k1.f 2
    by_cases hcd : c' + 1 = d'
    · have hb : (c' + 1 == d') = true := by rw [beq_iff_eq]; exact hcd
      have i5' : wfin m n (n - (i' + 1)).toNat ⟨d' + 1, 0, i' + 1⟩ = R := by
        rw [← i5, show (n - i').toNat = (n - (i' + 1)).toNat + 1 by omega]
        simp only [wfin, WS.next]
        rw [if_pos ⟨hm1, hm2⟩, if_pos hcd]
      clear i5
      have hcd' : Hid (c' + 1 = d') := hcd
      clear hcd
      refine wpIn_region_quiet_round (by kernel_rfl) (by kernel_rfl) (by kernel_rfl) (fun ⟨_, _, h⟩ => h) ?_
      repeat (go_big_quiet_step (fail))
      refine wpQuiet_nil ?_
      rintro _ ⟨nq, rfl⟩
      have hw1 : IntKind.i64.wrap (d' + 1) = d' + 1 := IntWalk.i64_in _ (by omega)
      gi_wp2
      have hp0 : (W1.drewN nq).drew.cell? ⟨w.heap.size, 0, none⟩ = some (.pointer (some ⟨b, 0, none⟩)) := cp
      haveI : Nonempty (Held fun w' => w'.cell? ⟨w.heap.size, 0, none⟩ = some (.pointer (some ⟨b, 0, none⟩))) := ⟨⟨_, hp0⟩⟩
      have hcb : ∀ n : Held fun w' => w'.cell? ⟨w.heap.size, 0, none⟩ = some (.pointer (some ⟨b, 0, none⟩)), n.x.cell? ⟨w.heap.size, 0, none⟩ = some (.pointer (some ⟨b, 0, none⟩)) := fun n => n.ok
      refine wpIn_region_mix (fun x => ∃ n : Held fun w' => w'.cell? ⟨w.heap.size, 0, none⟩ = some (.pointer (some ⟨b, 0, none⟩)), x = n.x) [some 5, none, some 3, none, some 2, none] (by kernel_rfl) (by kernel_rfl) (by kernel_rfl) (by kernel_rfl) ⟨⟨_, hp0⟩, rfl⟩ ?_
      simp only [wpMix, List.take_succ_cons, List.take_zero, List.drop_succ_cons, List.drop_zero]
      repeat (go_big_quiet_step (fail))
      refine wpQuiet_nil ?_
      go_wp2
      refine ⟨⟨⟨_, hp0⟩, rfl⟩, ?_⟩
      simp only []
      repeat (go_big_quiet_step (fail))
      refine wpQuiet_nil ?_
      go_wp2
      have k4d : Blk (W1.drewN (nq + 1)) w.heap.size #[.pointer (some ⟨b, 0, none⟩)] 90 := k4
      have k4a := k4d.far (p := ⟨b, 1, none⟩) (Ne.symm hbS) (.int .i64 (d' + 1))
      refine ⟨⟨⟨_, k4a.cell 0 rfl⟩, rfl⟩, ?_⟩
      simp only []
      repeat (go_big_quiet_step (fail))
      refine wpQuiet_nil ?_
      go_wp2
      have k4b := k4a.far (p := ⟨b, 2, none⟩) (Ne.symm hbS) (.int .i64 0)
      refine ⟨⟨⟨_, k4b.cell 0 rfl⟩, rfl⟩, ?_⟩
      simp only []
      have hnx : WS.next ⟨d', c', i'⟩ = ⟨d' + 1, 0, i' + 1⟩ := by unfold WS.next; rw [if_pos hcd'.out]
      have HN := Lib.hid hnx
      clear hnx
      gi_wp2
      show KeepsOthers _ _ ∧ _
      rw [HN.out]
      refine ⟨((keepsDrewN k8 (nq + 1)).trans (KeepsOthers.setCell _ _ _)).trans (KeepsOthers.setCell _ _ _), ⟨(k1.s1 _).s2 _, (k2.far (Ne.symm hbB2) _).far (Ne.symm hbB2) _, (k3.far (Ne.symm hbB1) _).far (Ne.symm hbB1) _⟩, k4b, i5', ⟨by simp only; omega, by simp only; omega, by simp only; omega, by simp only; omega⟩, ?_⟩
      exact (((k7.drewN (nq + 1))).set1 _ _).set1 _ _
    · have hb : (c' + 1 == d') = false := by rw [beq_eq_false_iff_ne]; exact hcd
      have i5' : wfin m n (n - (i' + 1)).toNat ⟨d', c' + 1, i' + 1⟩ = R := by
        rw [← i5, show (n - i').toNat = (n - (i' + 1)).toNat + 1 by omega]
        simp only [wfin, WS.next]
        rw [if_pos ⟨hm1, hm2⟩, if_neg hcd]
      clear i5
      have hnx : WS.next ⟨d', c', i'⟩ = ⟨d', c' + 1, i' + 1⟩ := by unfold WS.next; rw [if_neg hcd]
      refine wpIn_region_quiet_round (by kernel_rfl) (by kernel_rfl) (by kernel_rfl) (fun ⟨_, _, h⟩ => h) ?_
      repeat (go_big_quiet_step (fail))
      refine wpQuiet_nil ?_
      rintro _ ⟨nq, rfl⟩
      have HN := Lib.hid hnx
      clear hnx
      gi_wp2
      show KeepsOthers _ _ ∧ _
      rw [HN.out]
      exact ⟨keepsDrewN k8 nq, ⟨k1, k2, k3⟩, k4, i5', ⟨by simp only; omega, by simp only; omega, by simp only; omega, by simp only; omega⟩, k7.drewN nq⟩
  case done =>
    rintro D ⟨d', c', i'⟩ W hD hmore ⟨⟨i1, i2, i3⟩, i4, i5, i6, i7⟩ hK
    go_wp2
    have hfin : R = ⟨d', c', i'⟩ := by
      rw [← i5]
      cases (n - i').toNat with
      | zero => rfl
      | succ k => simp only [wfin]; rw [if_neg hmore]
    refine ⟨by simp, .inl ⟨_, _, rfl, run_takeDeferred hK, ?_⟩⟩
    rw [hfin]
    exact ⟨_, results_none rfl _ _ _, rfl, Blk.put i1 _ hK rfl, i7.put _ (by omega)⟩
end window
end Go.Proofs.YtneggoonlmmjeaaGreat
namespace Go.Proofs.YtneggoonlmmjeaaGreat
open Go.RowKit Go.Shelf
set_option linter.unusedVariables false
set_option linter.unusedSimpArgs false
set_option maxRecDepth 100000

theorem flat1 : ∀ {xs : List (List Value)}, (∀ x ∈ xs, x.length = 1) → xs.flatten.length = xs.length
  | [], _ => rfl
  | x :: xs, h => by
    have h1 := h x (by simp)
    have h2 := flat1 (xs := xs) fun y hy => h y (by simp [hy])
    simp [h1, h2]; omega
theorem flat1_drop : ∀ {xs : List (List Value)} (n : Nat), (∀ x ∈ xs, x.length = 1) → (xs.drop n).flatten = xs.flatten.drop n
  | [], n, _ => by simp
  | x :: xs, 0, _ => by simp
  | x :: xs, n + 1, h => by
    have h1 := h x (by simp)
    have h2 := flat1_drop (xs := xs) n fun y hy => h y (by simp [hy])
    obtain ⟨u, rfl⟩ := List.length_eq_one_iff.1 h1
    simp [h2]
theorem All2.drop {α β : Type} {r : β → α → Prop} : ∀ {xs : List β} {ys : List α} (n : Nat), All2 r xs ys → All2 r (xs.drop n) (ys.drop n)
  | [], [], _, _ => by simp [All2]
  | _ :: _, _ :: _, 0, h => by simpa using h
  | _ :: _, _ :: _, n + 1, ⟨_, h2⟩ => by simpa using h2.drop n

theorem isnil_bb (A : Addr) (n c : Nat) (w : World) : (binOp BinOp.eql 34 (Value.slice (some A) n c) (Value.slice none 0 0)).run Tryz.prog w = .ok (.bool false) w := by kernel_rfl
attribute [local go_sem] isnil_bb
/-- A row of rows of bytes is laid anew, of what is read at a place. -/
theorem bb_Clone (w : World) (g o k c : Nat) (vs : List Value) (hlt : g < w.heap.size) (hs : ∀ j u, vs[j]? = some u → w.cell? ⟨g, o + j, none⟩ = some u) (hk : vs.length = k) (h1 : ∀ u ∈ vs, u.oneCell' = true) (hl : k ≤ 1000) :
    Calls Tryz.prog 240 #[.slice (some ⟨g, o, none⟩) k c] w fun e w' => ∃ s' : Sl, e = .returned (.slice s'.A s'.n s'.c) ∧ w'.ownsRow 0 49 1 s'.v k vs ∧ (∀ b ∈ s'.blk, w.heap.size ≤ b) ∧ Fr [] w w' := by
  obtain ⟨i0, hi0, hz0, hz1, hz2⟩ := bb_info
  have hun : Tryz.prog.underlying 34 = some (.slice 49) := Tryz.underlying34
  have f1 := (Fr.refl [] w).alloc (.cells #[] 49)
  have hsr : Src k vs (w.alloc (.cells #[] 49)) (.slice (some ⟨g, o, none⟩) k c) := .inr ⟨⟨g, o, none⟩, c, rfl, fun j u hj => by
    rw [Go.WideShapes.add_plain]
    exact f1.cell (hs j u hj) (by simp)⟩
  have ho : (w.alloc (.cells #[] 49)).ownsRow 0 49 1 (Sl.v ⟨some ⟨w.heap.size, 0, none⟩, 0, 0⟩) 0 [] := World.ownsRow_made _ #[] 0 (Nat.zero_le _) (Nat.zero_le _) rfl
  have HSR := Lib.hid hsr
  have HO := Lib.hid ho
  have HONE := Lib.hid h1
  have HK := Lib.hid hk
  clear hs hsr ho h1 f1 hk
  go_enter Tryz.func240, Tryz.ntmps240
  go_wp2_with (at_builtin; refine wpList_push rfl _ _ 34 rfl 49 i0 (.slice none 0 0) 1 24 hun hi0 hz0 hz1 hz2 rfl (by decide) ⟨some ⟨w.heap.size, 0, none⟩, 0, 0⟩ 0 [] rfl HO.out (.slice (some ⟨g, o, none⟩) k c) k vs rfl HSR.out (by rw [HK.out]; omega) HONE.out (by unfold maxLen; omega) (by omega) ?_)
  intro s' w3 hp
  have hsz := ((Fr.refl [] w).alloc (.cells #[] 49)).size
  have hnew : ∀ x ∈ s'.blk, w.heap.size ≤ x := fun x hx => by
    rcases hp.2.2 x hx with h1 | h1
    · simp [Sl.blk] at h1; omega
    · omega
  have hfr : Fr [] w w3 := ((Fr.refl [] w).alloc (.cells #[] 49)).trans hp.2.1 (fun x hx => .inr (by simp [Sl.blk] at hx; omega))
  have hro : w3.ownsRow 0 49 1 s'.v k vs := by have := hp.1; simpa using this
  have HFIN := Lib.hid (And.intro hro (And.intro hnew hfr))
  clear hp hsz hnew hfr hro
  go_wp2
  go_ret
  exact ⟨s', rfl, HFIN.out⟩

set_option maxHeartbeats 1000000 in
theorem que_Cut (w : World) (q : Nat) (s : Sl) (most : Int) (l : List (List Int)) (n : Nat) (h : IsQue w q s most l) (h0 : 0 < n) (hn : n ≤ l.length) (hl : l.length ≤ 1000) :
    Calls Tryz.prog 228 #[.pointer (some ⟨q, 0, none⟩), .int .i64 n] w fun e w' => e = .returned (.int .i64 n) ∧ QueTo w w' q s most (l.drop n) := by
  have hm : max (n : Int) 0 = n := by omega
  have hm2 : min (n : Int) l.length = n := by omega
  have d1 : (0 : Int) < n := by omega
  have HQ := Lib.hid h
  have c1 := h.c1
  have z1 := h.head.free 1
  obtain ⟨xs, ho, h2, h3⟩ := h.row
  have hx1 := flat1 h3
  have hxl := h2.len
  obtain ⟨g, hA, hc⟩ := own_at ho (by omega)
  have hgl : g < w.heap.size := by obtain ⟨_, cs, e⟩ := own_blk ho g (by simp [Sl.blk, hA]); exact (Array.getElem?_eq_some_iff.1 e).1
  rw [hA] at c1
  have hv1 : ∀ u ∈ xs.flatten, u.oneCell' = true := by
    intro u hu
    obtain ⟨x, hx, hux⟩ := List.mem_flatten.1 hu
    obtain ⟨i, hi, e⟩ := List.getElem_of_mem hx
    obtain ⟨t, et, _⟩ := h2.get i hi (by omega)
    rw [e] at et
    subst et
    simp at hux
    subst hux
    rfl
  have hv2 : ∀ u ∈ (xs.drop n).flatten, u.oneCell' = true := fun u hu => hv1 u (by rw [flat1_drop n h3] at hu; exact List.mem_of_mem_drop hu)
  have hk : (xs.drop n).flatten.length = l.length - n := by rw [flat1_drop n h3, List.length_drop]; omega
  have hfin : ∀ (w2 : World) (s' : Sl), w2.ownsRow 0 49 1 s'.v (l.length - n) (xs.drop n).flatten → (∀ b ∈ s'.blk, w.heap.size ≤ b) → Fr [] w w2 →
      w2.cell? ⟨q, 1, none⟩ = some (.slice (some ⟨g, 0, none⟩) l.length s.c) ∧ w2.frozen? ⟨q, 1, none⟩ = false ∧ QueTo w (w2.setCell ⟨q, 1, none⟩ (.slice s'.A s'.n s'.c)) q s most (l.drop n) := by
    intro w2 s' hr hnew f
    have hh := h.head.fr f (by simp)
    have fs : Fr [q] w2 (w2.setCell ⟨q, 1, none⟩ (.slice s'.A s'.n s'.c)) := (Fr.refl [q] w2).setCell _ (.inl (by simp))
    have hqs : q ∉ s'.blk := fun hm => by have := hnew q hm; have := h.head.lt; omega
    have hrow : BRow s' (l.drop n) w2 := ⟨xs.drop n, by rw [List.length_drop]; exact hr, (h2.drop n).imp fun _ _ ⟨t, e, hb⟩ => ⟨t, e, hb.fr f⟩, fun x hx => h3 x (List.mem_of_mem_drop hx)⟩
    refine ⟨f.cell c1 (by simp), hh.free 1, s', ⟨Blk.set hh 1 _ rfl, hrow.frL fs (fun y hy => by simp at hy; subst hy; exact Blk.noU hh (by decide)) (fun b hb hm => by simp at hm; subst hm; exact hqs hb), hqs⟩, ((f.mono (M := q :: s.blk) (by simp)).setCell _ (.inl (by simp))), fun y hy => .inr (hnew y hy)⟩
  have HF := Lib.hid hfin
  have HK := Lib.hid hk
  have HV := Lib.hid hv2
  have HR : ∀ o, (∀ j u, (xs.drop n).flatten[j]? = some u → w.cell? ⟨g, o + j, none⟩ = some u) → Hid (∀ j u, (xs.drop n).flatten[j]? = some u → w.cell? ⟨g, o + j, none⟩ = some u) := fun o h => Lib.hid h
  have HR1 := HR n (fun j u hj => by
    rw [flat1_drop n h3, List.getElem?_drop] at hj
    exact hc _ _ hj)
  clear HR h hfin hk hv1 hv2 hc ho h2 h3
  go_enter Tryz.func228, Tryz.ntmps228
  go_wp2_with fail
  refine (que_Len w q s most l HQ.out).mono ?_
  rintro e w1 ⟨rfl, rfl⟩
  go_wp2_with fail
  case inr =>
    try simp only [Option.map_some, Go.WideShapes.add_plain, Nat.zero_add]
    refine (bb_Clone w g n (l.length - n) (s.c - n) _ hgl HR1.out HK.out HV.out (by omega)).mono ?_
    rintro e w2 ⟨s', rfl, hr, hnew, f⟩
    obtain ⟨c1', z1', hq⟩ := HF.out w2 s' hr hnew f
    have HFIN := Lib.hid hq
    clear hr hnew f hq c1 z1
    go_wp2
    go_ret
    exact ⟨rfl, HFIN.out⟩
  case inl =>
    have hln : l.length - n = 0 := by
      obtain ⟨ys, ho, _⟩ := HQ.out.row
      obtain ⟨A', c', e', h1⟩ := own_cap ho
      cases s
      simp only [Sl.v, Value.slice.injEq] at e'
      simp only at h
      omega
    have hvn : (xs.drop n).flatten = [] := List.eq_nil_of_length_eq_zero (by rw [HK.out]; exact hln)
    refine (bb_Clone w g 0 (l.length - n) 0 (xs.drop n).flatten hgl (by rw [hvn]; simp) HK.out HV.out (by omega)).mono ?_
    rintro e w2 ⟨s', rfl, hr, hnew, f⟩
    obtain ⟨c1', z1', hq⟩ := HF.out w2 s' hr hnew f
    have HFIN := Lib.hid hq
    clear hr hnew f hq c1 z1 hvn hln
    go_wp2
    go_ret
    exact ⟨rfl, HFIN.out⟩

theorem back_Acked (w : World) (k q : Nat) (s : Sl) (most : Int) (o n : Nat) (l : List (List Int)) (h : IsBack w k q s most o l) (hn : 0 < n) (hno : n ≤ o) (hol : o ≤ l.length) (hl : l.length ≤ 1000) :
    Calls Tryz.prog 204 #[.pointer (some ⟨k, 0, none⟩), .int .i64 n] w fun e w' => e = .returned (.int .i64 n) ∧ BackTo w w' k q s most ((o - n : Nat) : Int) (l.drop n) := by
  have hm : min (n : Int) o = n := by omega
  have ow : IntKind.i64.wrap ((o : Int) - n) = ((o - n : Nat) : Int) := by rw [IntWalk.i64_in _ (by omega)]; omega
  go_enter Tryz.func204, Tryz.ntmps204
  go_wp2_with fail
  refine (back_row w k q s most o l h).mono ?_
  rintro e w1 ⟨rfl, rfl⟩
  go_wp2_with fail
  refine (back_Out w k q s most o l h).mono ?_
  rintro e w1 ⟨rfl, rfl⟩
  go_wp2_with fail
  refine (que_Cut w q s most l n h.que hn (by omega) hl).mono ?_
  rintro e w1 ⟨rfl, s', hq, f, hnew⟩
  have hk : k ∉ q :: s.blk := fun hm => by rcases List.mem_cons.1 hm with e | hm; exact h.kq e; exact h.ks hm
  have hb := h.back.fr f hk
  have c1 := hb.cell 1 rfl
  have z1 := hb.free 1
  simp only [List.getElem_toArray, List.getElem_cons_zero, List.getElem_cons_succ] at c1
  have hks : k ∉ s'.blk := fun hm => by
    rcases hnew k hm with h1 | h1
    · exact h.ks h1
    · have := h.back.lt; omega
  have fs : Fr [k] w1 (w1.setCell ⟨k, 1, none⟩ (.int .i64 ((o - n : Nat) : Int))) := (Fr.refl [k] w1).setCell _ (.inl (by simp))
  have hfin : BackTo w (w1.setCell ⟨k, 1, none⟩ (.int .i64 ((o - n : Nat) : Int))) k q s most ((o - n : Nat) : Int) (l.drop n) :=
    ⟨s', ⟨Blk.set hb 1 _ rfl, hq.fr fs (fun x hx hm => by simp at hm; subst hm; rcases List.mem_cons.1 hx with e | hx; exact h.kq e; exact hks hx) (fun y hy => by simp at hy; subst hy; exact Blk.noU hb (by decide)), h.kq, hks⟩, (f.mono (M := k :: q :: s.blk) (fun x hx => .inl (List.mem_cons_of_mem _ hx))).setCell _ (.inl (by simp)), hnew⟩
  have HFIN := Lib.hid hfin
  clear h hk hb hks fs hfin hq f hnew
  go_wp2
  go_ret
  exact ⟨rfl, HFIN.out⟩

theorem back_Clear (w : World) (k q : Nat) (s : Sl) (most out : Int) (l : List (List Int)) (h : IsBack w k q s most out l) (hl : l.length ≤ 1000) :
    Calls Tryz.prog 195 #[.pointer (some ⟨k, 0, none⟩)] w fun e w' => (∃ v, e = .returned (.int .i64 v)) ∧ BackTo w w' k q s most 0 [] := by
  by_cases hn : l = []
  · subst hn
    exact (back_Clear0 w k q s most out h).mono fun e w' ⟨he, h1, f⟩ => ⟨⟨_, he⟩, BackTo.of h1 f⟩
  · have h0 : 0 < l.length := List.length_pos_iff.2 hn
    go_enter Tryz.func195, Tryz.ntmps195
    go_wp2_with fail
    refine (back_Again w k q s most out l h).mono ?_
    rintro e w1 ⟨rfl, h1, f1⟩
    go_wp2_with fail
    refine (back_row w1 k q s most 0 l h1).mono ?_
    rintro e w2 ⟨rfl, rfl⟩
    go_wp2_with fail
    refine (back_Len w1 k q s most 0 l h1).mono ?_
    rintro e w2 ⟨rfl, rfl⟩
    go_wp2_with fail
    refine (que_Cut w1 q s most l l.length h1.que h0 (Nat.le_refl _) hl).mono ?_
    rintro e w2 ⟨rfl, s', hq, f, hnew⟩
    rw [List.drop_length] at hq
    have hk : k ∉ q :: s.blk := fun hm => by rcases List.mem_cons.1 hm with e | hm; exact h1.kq e; exact h1.ks hm
    have hfin : BackTo w w2 k q s most 0 [] := ⟨s', ⟨h1.back.fr f hk, hq, h1.kq, fun hm => by
      rcases hnew k hm with h2 | h2
      · exact h1.ks h2
      · have := h1.back.lt; omega⟩, (f1.mono (M := k :: q :: s.blk) (fun x hx => .inl (by simp at hx; simp [hx]))).trans f (fun x hx => .inl (List.mem_cons_of_mem _ hx)), fun x hx => (hnew x hx).imp id (fun h2 => Nat.le_trans f1.size h2)⟩
    have HFIN := Lib.hid hfin
    clear hfin hk hq f hnew
    go_wp2
    go_ret
    exact ⟨⟨_, rfl⟩, HFIN.out⟩
end Go.Proofs.YtneggoonlmmjeaaGreat
