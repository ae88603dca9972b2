
/- Package plain: Hear. -/
import Derived.Test.YtgmpikaibeenmaaPlainI
import Derived.Laws.EntriesVeiled
namespace Go.Proofs.Ytgmpikaibeenmaa
open Go.RowKit
set_option linter.unusedVariables false
set_option linter.unusedSimpArgs false
set_option maxRecDepth 100000
attribute [local go_sem] Oper.semAt_some

theorem Fr.putObj (W : World) (l : Nat) (o' : Obj) : Fr [l] W (W.putObj l o') := ⟨rfl, rfl, rfl, by simp, fun k _ hn => World.putObj_heap_other (by simpa using hn)⟩
theorem AtF.frL {w0 w w' : World} {p : Nat} {m : List AE} {F L : List Nat} (h : AtF w0 w p m F) (f : Fr L w w') (hL : ∀ x ∈ L, x ∉ F) (hb : ∀ x ∈ L, w0.heap.size ≤ x) : AtF w0 w' p m F := by
  obtain ⟨b, c, l, ⟨h1, h2, h3, h4⟩, rfl⟩ := h
  exact ⟨b, c, l, ⟨h1.fr f (fun x hx hm => hL x hm hx), h2, h3.trans f (fun y hy => .inr (hb y hy)), h4⟩, rfl⟩
/-- wp_rangeFunc_step; behind the assignment the slot q holds what came. -/
theorem wp_rangeFunc_at {σ : Type} {P : Program} {g : Operand} {tp q : Nat} {assign body : Code} {Q : Exit → Act → World → Prop} {tm : Array Value} {w : World}
    {gf : Nat} {lb : Array Value} (hg : ({ tmps := tm, defers := [] } : Act).eval g = .func (.func gf) #[] lb) (eg : ∀ args w, (callFunc gf args).run P w = .ok (.enter gf args) w)
    (I : σ → World → Prop) (hI : ∀ s W l o o', I s W → w.heap.size ≤ l → W.heap[l]? = some o → o.isCells = false → o.isWalk = false → I s (W.putObj l o'))
    (hA : ∀ s W W', I s W → Fr [] W W' → I s W') (Step : World → World → Prop) (hSp : ∀ W l o o', w.heap.size ≤ l → W.heap[l]? = some o → o.isCells = false → o.isWalk = false → Step W (W.putObj l o')) (hSt : ∀ a b c, Step a b → Step b c → Step a c)
    (s0 : σ) (h0 : I s0 w) (enc : σ → Value) (more : σ → Prop) (next : σ → σ)
    (hiter : ∀ (l : Nat) (J : σ → World → Prop) (W : World), (∀ s W, J s W → I s W) → (∀ s W W', J s W → Fr [] W W' → J s W') →
      (∀ s W, J s W → more s → YieldAt Fence.wide 0 P l #[enc s] W fun e W' => e = .returned (.bool true) ∧ J (next s) W' ∧ Step W W') → J s0 W →
      CallsIn Fence.wide 0 P gf (#[.func (.yield l) #[] #[]] ++ lb) W fun e W' => (∃ v, e = .returned v) ∧ ∃ s, ¬ more s ∧ J s W')
    (hassign : ∀ (l : Nat) (s : σ) (W : World) (K : Act → World → Prop), K { tmps := (tm.setIfInBounds tp (enc s)).setIfInBounds q (enc s), defers := [] } W →
      assign.wpIn (Fence.wide.inRound l) 0 P (Exit.then K (fun _ _ _ => False)) { tmps := tm.setIfInBounds tp (enc s), defers := [] } W)
    (hbody : ∀ (l : Nat) (s : σ) (W : World), I s W → more s → body.wpIn (Fence.wide.inRound l) 0 P (offEnd (fun W' => I (next s) W' ∧ Step W W') W) { tmps := (tm.setIfInBounds tp (enc s)).setIfInBounds q (enc s), defers := [] } W)
    (hdone : ∀ (D : Nat) (s : σ) (W : World), w.heap.size ≤ D → ¬ more s → I s W → W.heap[D]? = some (.deferred (some [])) → Q .normal { tmps := tm, defers := [{ target := .collected D, args := #[] }] } W) :
    (Code.rangeFunc g #[tp] assign body).wp P Q { tmps := tm, defers := [] } w :=
  wp_rangeFunc_step (σ := σ) (gf := gf) (lb := lb) hg eg I hI hA Step hSp hSt s0 h0 (fun s => #[enc s]) (fun _ => rfl) more next hiter (fun s => { tmps := (tm.setIfInBounds tp (enc s)).setIfInBounds q (enc s), defers := [] }) (by intro l s W K hK; have h9 := hassign l s W K hK; simpa using h9) hbody hdone
theorem KeepsOthers.fr {L : List Nat} {w w' : World} (f : Fr L w w') (hL : ∀ x ∈ L, ∃ cs t fz, w.heap[x]? = some (.cells cs t fz)) : KeepsOthers w w' :=
  ⟨f.size, fun k o e ho => f.keeps e fun hm => by
    obtain ⟨cs, t, fz, h⟩ := hL k hm
    rw [h] at e
    cases e
    cases ho⟩

/-- Between two rounds. -/
structure HX (w0 w : World) (p : Nat) (m : List AE) (F : List Nat) (to : Int) (stn : Bool) (b5 b4 b3 : Nat) (d : PD) (sp : Sl) (ad : Ad) (N B P S A T8 T9 TF : Nat) (fv : Value) (f : Int → PD) (k : Nat) (W : World) : Prop where
  at_ : AtF w0 W p m F
  c5 : Blk W b5 #[.bool stn] 4
  c4 : Blk W b4 #[.int .i64 to] 3
  c3 : Blk W b3 #[.pointer (some ⟨p, 0, none⟩)] 23
  cP : Blk W P (d.arr sp) 29
  cS : Blk W S #[.pointer (some ⟨p, 0, none⟩)] 23
  cA : Blk W A ad.arr 37
  bts : Bts N W sp d.info
  cF : Blk W TF #[fv] 75
  c8 : Blk W T8 #[.slice none 0 0] 32
  c9 : ∃ st : Sl, Blk W T9 #[.slice st.A st.n st.c] 33 ∧ PRow N B st (((hsOf m to stn).take k).map f) W
  size : B ≤ W.heap.size
  fr : Fr [] w W
theorem HX.frL {w0 w : World} {p : Nat} {m : List AE} {F : List Nat} {to : Int} {stn : Bool} {b5 b4 b3 : Nat} {d : PD} {sp : Sl} {ad : Ad} {N B P S A T8 T9 TF : Nat} {fv : Value} {f : Int → PD} {k : Nat} {W W' : World} {L : List Nat} (h : HX w0 w p m F to stn b5 b4 b3 d sp ad N B P S A T8 T9 TF fv f k W) (g : Fr L W W')
    (hL : ∀ x ∈ L, N ≤ x ∧ w.heap.size ≤ x ∧ w0.heap.size ≤ x ∧ x ∉ F ∧ (∀ cs t fz, W.heap[x]? ≠ some (.cells cs t fz))) : HX w0 w p m F to stn b5 b4 b3 d sp ad N B P S A T8 T9 TF fv f k W' := by
  have nb : ∀ {b : Nat} {cs : Array Value} {t : TypeId}, Blk W b cs t → b ∉ L := fun hb hm => (hL _ hm).2.2.2.2 _ _ _ hb
  have hB : ∀ x ∈ L, N ≤ x ∧ ∀ cs fz, W.heap[x]? ≠ some (.cells cs 5 fz) := fun x hx => ⟨(hL x hx).1, fun cs fz => (hL x hx).2.2.2.2 cs _ fz⟩
  refine ⟨h.at_.frL g (fun x hx => (hL x hx).2.2.2.1) (fun x hx => (hL x hx).2.2.1), h.c5.fr g (nb h.c5), h.c4.fr g (nb h.c4), h.c3.fr g (nb h.c3), h.cP.fr g (nb h.cP), h.cS.fr g (nb h.cS), h.cA.fr g (nb h.cA), h.bts.frL g hB, h.cF.fr g (nb h.cF), h.c8.fr g (nb h.c8), by obtain ⟨st, h1, h2⟩ := h.c9; exact ⟨st, h1.fr g (nb h1), PRow.frL h2 g hB (fun b hb hm => by obtain ⟨_, cs, e⟩ := RowG.blk h2 b hb; exact (hL _ hm).2.2.2.2 _ _ _ e)⟩, Nat.le_trans h.size g.size, h.fr.trans g (fun x hx => .inr (hL x hx).2.1)⟩

/-- Between two rounds. -/
structure HU (w0 w : World) (p : Nat) (m : List AE) (F : List Nat) (to : Int) (stn : Bool) (b5 b4 b3 : Nat) (d : PD) (sp : Sl) (ad : Ad) (N B P S A T8 T9 TF : Nat) (fv : Value) (f : Int → ID) (k : Nat) (W : World) : Prop where
  at_ : AtF w0 W p m F
  c5 : Blk W b5 #[.bool stn] 4
  c4 : Blk W b4 #[.int .i64 to] 3
  c3 : Blk W b3 #[.pointer (some ⟨p, 0, none⟩)] 23
  cP : Blk W P (d.arr sp) 29
  cS : Blk W S #[.pointer (some ⟨p, 0, none⟩)] 23
  cA : Blk W A ad.arr 37
  bts : Bts N W sp d.info
  cF : Blk W TF #[fv] 70
  c8 : ∃ st : Sl, Blk W T8 #[.slice st.A st.n st.c] 32 ∧ IRow N B st (((hsOf m to stn).take k).map f) W
  c9 : Blk W T9 #[.slice none 0 0] 33
  size : B ≤ W.heap.size
  fr : Fr [] w W
theorem HU.frL {w0 w : World} {p : Nat} {m : List AE} {F : List Nat} {to : Int} {stn : Bool} {b5 b4 b3 : Nat} {d : PD} {sp : Sl} {ad : Ad} {N B P S A T8 T9 TF : Nat} {fv : Value} {f : Int → ID} {k : Nat} {W W' : World} {L : List Nat} (h : HU w0 w p m F to stn b5 b4 b3 d sp ad N B P S A T8 T9 TF fv f k W) (g : Fr L W W')
    (hL : ∀ x ∈ L, N ≤ x ∧ w.heap.size ≤ x ∧ w0.heap.size ≤ x ∧ x ∉ F ∧ (∀ cs t fz, W.heap[x]? ≠ some (.cells cs t fz))) : HU w0 w p m F to stn b5 b4 b3 d sp ad N B P S A T8 T9 TF fv f k W' := by
  have nb : ∀ {b : Nat} {cs : Array Value} {t : TypeId}, Blk W b cs t → b ∉ L := fun hb hm => (hL _ hm).2.2.2.2 _ _ _ hb
  have hB : ∀ x ∈ L, N ≤ x ∧ ∀ cs fz, W.heap[x]? ≠ some (.cells cs 5 fz) := fun x hx => ⟨(hL x hx).1, fun cs fz => (hL x hx).2.2.2.2 cs _ fz⟩
  refine ⟨h.at_.frL g (fun x hx => (hL x hx).2.2.2.1) (fun x hx => (hL x hx).2.2.1), h.c5.fr g (nb h.c5), h.c4.fr g (nb h.c4), h.c3.fr g (nb h.c3), h.cP.fr g (nb h.cP), h.cS.fr g (nb h.cS), h.cA.fr g (nb h.cA), h.bts.frL g hB, h.cF.fr g (nb h.cF), by obtain ⟨st, h1, h2⟩ := h.c8; exact ⟨st, h1.fr g (nb h1), IRow.frL h2 g hB (fun b hb hm => by obtain ⟨_, cs, e⟩ := RowG.blk h2 b hb; exact (hL _ hm).2.2.2.2 _ _ _ e)⟩, h.c9.fr g (nb h.c9), Nat.le_trans h.size g.size, h.fr.trans g (fun x hx => .inr (hL x hx).2.1)⟩

/-- What is left of HX when the list of deferred calls has been taken. -/
theorem HX.done {w0 w : World} {p : Nat} {m : List AE} {F : List Nat} {to : Int} {stn : Bool} {b5 b4 b3 : Nat} {d : PD} {sp : Sl} {ad : Ad} {N B P S A T8 T9 TF : Nat} {fv : Value} {f : Int → PD} {k : Nat} {W : World} (h : HX w0 w p m F to stn b5 b4 b3 d sp ad N B P S A T8 T9 TF fv f k W)
    {st : Sl} {l : List PD} (hr : PRow N B st l W) (hB : w.heap.size ≤ B) (D : Nat) (o' : Obj) (nq : Nat) (hD : N ≤ D ∧ w.heap.size ≤ D ∧ w0.heap.size ≤ D ∧ D ∉ F) (hd : W.heap[D]? = some (.deferred (some []))) :
    PRow N w.heap.size st l ((W.drewN nq).putObj D o') ∧ AtM w0 ((W.drewN nq).putObj D o') p m ∧ Fr [] w ((W.drewN nq).putObj D o') := by
  have hno : ∀ cs t fz, W.heap[D]? ≠ some (.cells cs t fz) := fun cs t fz e => by rw [hd] at e; cases e
  have g : Fr [D] W ((W.drewN nq).putObj D o') := ((Fr.refl [D] W).drewN nq).trans (Fr.putObj (W.drewN nq) D o') (fun x hx => .inl hx)
  have hD' : ∀ x ∈ [D], N ≤ x ∧ w.heap.size ≤ x ∧ w0.heap.size ≤ x ∧ x ∉ F ∧ (∀ cs t fz, W.heap[x]? ≠ some (.cells cs t fz)) := fun x hx => by
    rw [List.mem_singleton] at hx
    subst hx
    exact ⟨hD.1, hD.2.1, hD.2.2.1, hD.2.2.2, hno⟩
  have h' := h.frL g hD'
  refine ⟨?_, h'.at_.atM, h'.fr⟩
  obtain ⟨xs, h1, h2⟩ := PRow.frL hr g (fun x hx => ⟨(hD' x hx).1, fun cs fz => (hD' x hx).2.2.2.2 cs _ fz⟩) (fun b hb hm => by obtain ⟨_, cs, e⟩ := RowG.blk hr b hb; exact (hD' _ hm).2.2.2.2 _ _ _ e)
  exact ⟨xs, own_low h1 hB, h2⟩

/-- What is left of HU when the list of deferred calls has been taken. -/
theorem HU.done {w0 w : World} {p : Nat} {m : List AE} {F : List Nat} {to : Int} {stn : Bool} {b5 b4 b3 : Nat} {d : PD} {sp : Sl} {ad : Ad} {N B P S A T8 T9 TF : Nat} {fv : Value} {f : Int → ID} {k : Nat} {W : World} (h : HU w0 w p m F to stn b5 b4 b3 d sp ad N B P S A T8 T9 TF fv f k W)
    {st : Sl} {l : List ID} (hr : IRow N B st l W) (hB : w.heap.size ≤ B) (D : Nat) (o' : Obj) (nq : Nat) (hD : N ≤ D ∧ w.heap.size ≤ D ∧ w0.heap.size ≤ D ∧ D ∉ F) (hd : W.heap[D]? = some (.deferred (some []))) :
    IRow N w.heap.size st l ((W.drewN nq).putObj D o') ∧ AtM w0 ((W.drewN nq).putObj D o') p m ∧ Fr [] w ((W.drewN nq).putObj D o') := by
  have hno : ∀ cs t fz, W.heap[D]? ≠ some (.cells cs t fz) := fun cs t fz e => by rw [hd] at e; cases e
  have g : Fr [D] W ((W.drewN nq).putObj D o') := ((Fr.refl [D] W).drewN nq).trans (Fr.putObj (W.drewN nq) D o') (fun x hx => .inl hx)
  have hD' : ∀ x ∈ [D], N ≤ x ∧ w.heap.size ≤ x ∧ w0.heap.size ≤ x ∧ x ∉ F ∧ (∀ cs t fz, W.heap[x]? ≠ some (.cells cs t fz)) := fun x hx => by
    rw [List.mem_singleton] at hx
    subst hx
    exact ⟨hD.1, hD.2.1, hD.2.2.1, hD.2.2.2, hno⟩
  have h' := h.frL g hD'
  refine ⟨?_, h'.at_.atM, h'.fr⟩
  obtain ⟨xs, h1, h2⟩ := IRow.frL hr g (fun x hx => ⟨(hD' x hx).1, fun cs fz => (hD' x hx).2.2.2.2 cs _ fz⟩) (fun b hb hm => by obtain ⟨_, cs, e⟩ := RowG.blk hr b hb; exact (hD' _ hm).2.2.2.2 _ _ _ e)
  exact ⟨xs, own_low h1 hB, h2⟩

theorem Blk.n0 (w : World) (cs : Array Value) (t : TypeId) (o1 o2 o3 : Obj) : Blk ((((w.alloc (.cells cs t)).alloc o1).alloc o2).alloc o3) w.heap.size cs t := (((Blk.new w cs t).alloc o1).alloc o2).alloc o3
theorem Blk.n1 (w : World) (cs : Array Value) (t : TypeId) (o1 o2 o3 : Obj) : Blk ((((w.alloc o1).alloc (.cells cs t)).alloc o2).alloc o3) (w.heap.size + 1) cs t := by
  have := ((Blk.new (w.alloc o1) cs t).alloc o2).alloc o3
  rwa [World.size_alloc] at this
theorem Blk.n2 (w : World) (cs : Array Value) (t : TypeId) (o1 o2 o3 : Obj) : Blk ((((w.alloc o1).alloc o2).alloc (.cells cs t)).alloc o3) (w.heap.size + 1 + 1) cs t := by
  have := (Blk.new ((w.alloc o1).alloc o2) cs t).alloc o3
  rwa [World.size_alloc, World.size_alloc] at this
theorem Blk.n3 (w : World) (cs : Array Value) (t : TypeId) (o1 o2 o3 : Obj) : Blk ((((w.alloc o1).alloc o2).alloc o3).alloc (.cells cs t)) (w.heap.size + 1 + 1 + 1) cs t := by
  have := Blk.new (((w.alloc o1).alloc o2).alloc o3) cs t
  rwa [World.size_alloc, World.size_alloc, World.size_alloc] at this
theorem AtF.lt {w0 w : World} {p : Nat} {m : List AE} {F : List Nat} (h : AtF w0 w p m F) : ∀ x ∈ F, x < w.heap.size := by
  obtain ⟨b, c, l, ⟨h1, _, _, _⟩, rfl⟩ := h
  exact h1.lt
theorem take_map {α β : Type} (f : α → β) (l : List α) (k : Nat) (hk : k < l.length) : (l.take (k + 1)).map f = (l.take k).map f ++ [f l[k]] := by rw [List.take_succ_eq_append_getElem hk, List.map_append]; rfl
theorem hsOf_len {m : List AE} (to : Int) (st : Bool) : (hsOf m to st).length ≤ m.length + 1 := by
  unfold hsOf
  have := hear_le (m := m) to
  split <;> simp <;> omega
theorem plain_hearers (w : World) (v : Value) (to : Int) (stn : Bool) (hv : v = .pointer none ∨ ∃ b, v = .pointer (some ⟨b, 0, none⟩)) :
    Calls Try.prog 34 #[v, .int .i64 to, .bool stn] w fun e w' => ∃ x, w.heap.size = x ∧ e = .returned (.func (.func 46) #[] #[.pointer (some ⟨x + 2, 0, none⟩), .pointer (some ⟨x + 1, 0, none⟩), .pointer (some ⟨x, 0, none⟩)]) ∧
      Blk w' (x + 2) #[.bool stn] 4 ∧ Blk w' (x + 1) #[.int .i64 to] 3 ∧ Blk w' x #[v] 23 ∧ w'.heap.size = x + 3 ∧ Fr [] w w' := by
  have h3 := (((Blk.new w #[v] 23).alloc (.cells #[.int .i64 to] 3)).alloc (.cells #[.bool stn] 4))
  have h4 := ((Blk.new (w.alloc (.cells #[v] 23)) #[.int .i64 to] 3).alloc (.cells #[.bool stn] 4))
  have h5 := Blk.new ((w.alloc (.cells #[v] 23)).alloc (.cells #[.int .i64 to] 3)) #[.bool stn] 4
  simp only [World.size_alloc] at h4 h5
  have H := Lib.hid (And.intro h5 (And.intro h4 h3))
  clear h3 h4 h5
  rcases hv with rfl | ⟨b, rfl⟩
  all_goals
    go_enter Try.func34, Try.ntmps34
    go_wp2
    go_ret
    exact ⟨_, rfl, rfl, H.out.1, H.out.2.1, H.out.2.2, by simp, by ((repeat (first | (with_reducible exact Fr.refl _ _) | (with_reducible assumption) | (with_reducible refine Fr.drew ?_) | (with_reducible refine Fr.drewN ?_ _) | (with_reducible refine Fr.alloc ?_ _) | (with_reducible refine Fr.setL ?_ _ _ _ ?_) | (focus (refine Or.inl ?_; simp; done)) | (focus (refine Or.inr ?_; simp; done)) | (focus (refine Or.inr ?_; simp; omega)) | (focus (refine Or.inr ?_; omega)))); done)⟩

set_option maxHeartbeats 8000000 in
theorem hear_x (w0 w : World) (p : Nat) (m : List AE) (d : PD) (sp : Sl) (ad : Ad) (N : Nat) (hM : AtM w0 w p m) (hb : Bts N w sp d.info) (hN : N ≤ w.heap.size) (hmay : mayB d = true) (hfm : d.fm = 2) (hk : d.kd = 1 ∨ d.kd = 2) (hrs : d.rs = false) (hfr : d.fr ≠ 0) (hml : m.length ≤ 16) (hi : d.info.length ≤ 100000) :
    Calls Try.prog 12 #[.pointer (some ⟨p, 0, none⟩), ad.val, d.val sp] w fun e w' => ∃ st : Sl, e = .returned (.tuple #[.slice none 0 0, .slice st.A st.n st.c]) ∧ PRow N w.heap.size st ((hsOf m d.to true).map fun n => ansP d n (clsA m n)) w' ∧ AtM w0 w' p m ∧ Fr [] w w' := by
  have e2 : (d.fm != 2) = false := by simp [hfm]
  have e0 : (d.kd == 0) = false := by rcases hk with h | h <;> simp [h]
  have e3 : (d.fr != 0) = true := by simpa using hfr
  obtain ⟨F, hF⟩ := hM.atF
  have hMAY := Lib.hid hmay
  have hsn := hb.n
  have hp : p < w.heap.size := by obtain ⟨b, c, l, hh⟩ := hM; exact hh.is.blk.lt
  have hw0 := hM.fr.size
  obtain ⟨K, hK⟩ : ∃ K, d.kd = K := ⟨_, rfl⟩
  have ek : ((K == 1) = true) ∨ ((K == 1) = false ∧ (K == 2) = true) := by rw [← hK]; rcases hk with h | h <;> simp [h]
  have hb1 : Blk (((w.alloc (.cells #[.pointer (some ⟨p, 0, none⟩)] 23)).alloc (.cells ad.arr 37)).alloc (.cells (d.arr sp) 29)) w.heap.size #[.pointer (some ⟨p, 0, none⟩)] 23 := (((Blk.new w _ _).alloc _).alloc _)
  have hb2 : Blk (((w.alloc (.cells #[.pointer (some ⟨p, 0, none⟩)] 23)).alloc (.cells ad.arr 37)).alloc (.cells (d.arr sp) 29)) (w.heap.size + 1) ad.arr 37 := by
    have := (Blk.new (w.alloc (.cells #[.pointer (some ⟨p, 0, none⟩)] 23)) ad.arr 37).alloc (.cells (d.arr sp) 29)
    simpa only [World.size_alloc] using this
  have hb3 : Blk (((w.alloc (.cells #[.pointer (some ⟨p, 0, none⟩)] 23)).alloc (.cells ad.arr 37)).alloc (.cells (d.arr sp) 29)) (w.heap.size + 1 + 1) (d.arr sp) 29 := by
    have := Blk.new ((w.alloc (.cells #[.pointer (some ⟨p, 0, none⟩)] 23)).alloc (.cells ad.arr 37)) (d.arr sp) 29
    simpa only [World.size_alloc] using this
  have f0 : Fr [] w (((w.alloc (.cells #[.pointer (some ⟨p, 0, none⟩)] 23)).alloc (.cells ad.arr 37)).alloc (.cells (d.arr sp) 29)) := ((((Fr.refl _ _).alloc _).alloc _).alloc _)
  have hszE : (((w.alloc (.cells #[.pointer (some ⟨p, 0, none⟩)] 23)).alloc (.cells ad.arr 37)).alloc (.cells (d.arr sp) 29)).heap.size = w.heap.size + 3 := by simp
  have HH := Lib.hid (And.intro hb1 (And.intro hb2 (And.intro hb3 (And.intro f0 (And.intro hszE hsn)))))
  have HREL := Lib.hid hrs
  have HFLT := Lib.hid hF.lt
  have HKD := Lib.hid hK
  clear hb1 hb2 hb3 f0 hszE hfm hk hrs hfr hmay hK hsn
  refine (callsIn_wide (n := 0)).1 ?_
  refine callsIn_of_wp_marks Try.func12 rfl trivial ?_ rfl
  simp only [Try.ntmps12, List.size_toArray, List.length_cons, List.length_nil, Nat.reduceAdd, Nat.reduceSub, Array.replicate_succ, Array.replicate_zero, List.push_toArray, List.append_toArray, List.nil_append, List.cons_append]
  refine wpIn_wide.2 ?_
  go_wp2_with fail
  refine (pdu_May d sp _ HH.out.2.2.2.2.2).mono ?_
  rintro e w1 ⟨rfl, f1⟩
  rw [hMAY.out]
  obtain ⟨hb1, hb2, hb3, f0, hsz0, hsn⟩ := HH.out
  have hs1 := f1.size
  rw [hsz0] at hs1
  have k1 := hb1.fr f1 (by simp)
  have k2 := hb2.fr f1 (by simp)
  have k3 := hb3.fr f1 (by simp)
  have F1 := f0.tr f1
  have hF1 := hF.on F1
  have hb' := hb.fr F1
  have kS := k1.cell 0 rfl
  have kT := k3.cell 0 rfl
  have kF := k3.cell 1 rfl
  have kR := k3.cell 2 rfl
  have kM := k3.cell 3 rfl
  have kK := k3.cell 4 rfl
  simp only [List.getElem_toArray, List.getElem_cons_zero, List.getElem_cons_succ] at kS kT kF kR kM kK
  rw [HREL.out] at kR
  clear HH hb1 hb2 hb3 f0 hsz0 hF hb f1
  generalize hS : w.heap.size = S at *
  have HSE := Lib.hid hS
  clear hS
  have q0 : ∀ o1 o2 o3 o4, ((((w1.alloc o1).alloc o2).alloc o3).alloc o4).cell? ⟨S + 1 + 1, 0, none⟩ = some (.int .i64 d.to) := fun o1 o2 o3 o4 => ((((k3.alloc o1).alloc o2).alloc o3).alloc o4).cell 0 rfl
  have q1 : ∀ o1 o2 o3 o4, ((((w1.alloc o1).alloc o2).alloc o3).alloc o4).cell? ⟨S + 1 + 1, 1, none⟩ = some (.int .i64 d.fr) := fun o1 o2 o3 o4 => ((((k3.alloc o1).alloc o2).alloc o3).alloc o4).cell 1 rfl
  have q4 : ∀ o1 o2 o3 o4, ((((w1.alloc o1).alloc o2).alloc o3).alloc o4).cell? ⟨S + 1 + 1, 4, none⟩ = some (.int .i64 d.kd) := fun o1 o2 o3 o4 => ((((k3.alloc o1).alloc o2).alloc o3).alloc o4).cell 4 rfl
  have q2 : ∀ o1 o2 o3 o4, ((((w1.alloc o1).alloc o2).alloc o3).alloc o4).cell? ⟨S + 1 + 1, 2, none⟩ = some (.bool false) := fun o1 o2 o3 o4 => by have := ((((k3.alloc o1).alloc o2).alloc o3).alloc o4).cell 2 rfl; simp only [List.getElem_toArray, List.getElem_cons_zero, List.getElem_cons_succ, HREL.out] at this; exact this
  have qS : ∀ o1 o2 o3 o4, ((((w1.alloc o1).alloc o2).alloc o3).alloc o4).cell? ⟨S, 0, none⟩ = some (.pointer (some ⟨p, 0, none⟩)) := fun o1 o2 o3 o4 => ((((k1.alloc o1).alloc o2).alloc o3).alloc o4).cell 0 rfl
  have ek' : (d.kd == 1) = true ∨ ((d.kd == 1) = false ∧ (d.kd == 2) = true) := by rw [HKD.out]; exact ek
  clear ek
  rcases ek' with e1 | ⟨e1, e4⟩
  all_goals
    go_wp2_with fail
    refine (plain_hearers _ (.pointer (some ⟨p, 0, none⟩)) d.to true (.inr ⟨p, rfl⟩)).mono ?_
    rintro e w5 ⟨X, hX, rfl, h5, h4, h3, hsz5, f5⟩
    have b8 := Blk.fr (Blk.n0 _ _ _ _ _ _) f5 (by simp)
    have b9 := Blk.fr (Blk.n1 _ _ _ _ _ _) f5 (by simp)
    have bF := Blk.fr (Blk.n3 _ _ _ _ _ _) f5 (by simp)
    have f15 : Fr [] w1 w5 := ((((Fr.refl _ _).alloc _).alloc _).alloc _).alloc _ |>.tr f5
    simp only [World.size_alloc] at hX
    have hFlt := HFLT.out
    have hI0 : HX w0 w p m F d.to true (X + 2) (X + 1) X d sp ad N w5.heap.size (S + 1 + 1) S (S + 1) w1.heap.size (w1.heap.size + 1) (w1.heap.size + 1 + 1 + 1) (.func (.func 31) #[] #[.pointer (some ⟨S + 1 + 1, 0, none⟩), .pointer (some ⟨S, 0, none⟩), .pointer (some ⟨w1.heap.size + 1, 0, none⟩)]) (fun n => ansP d n (clsA m n)) 0 w5 :=
      ⟨hF1.on f15, h5, h4, h3, k3.fr f15 (by simp), k1.fr f15 (by simp), k2.fr f15 (by simp), hb'.fr f15, bF, b8, ⟨Sl.nil, b9, RowG.nil⟩, Nat.le_refl _, F1.tr f15⟩
    have HI0 := Lib.hid hI0
    have HB5 : X + 3 ≤ w5.heap.size := by omega
    have HX5 : w1.heap.size + 4 ≤ X := by omega
    clear b8 b9 bF h5 h4 h3 hI0 q0 q1 q2 q4 qS k1 k2 k3 kS kT kF kR kM kK hF1 hb' f5 f15
    generalize hBe : w5.heap.size = B at *
    have HBE := Lib.hid hBe
    clear hsz5 hBe hX
    generalize w1.heap.size = V at *
    go_wp2
    have hFS : ∀ x ∈ F, x < S := HFLT.out
    have hsE := HSE.out
    have HFS := Lib.hid hFS
    have hlenS := hsOf_len (m := m) d.to true
    clear hFS hFlt
    refine wp_rangeFunc_at (σ := Nat) (q := 14) (gf := 46) (lb := #[.pointer (some ⟨X + 2, 0, none⟩), .pointer (some ⟨X + 1, 0, none⟩), .pointer (some ⟨X, 0, none⟩)]) rfl (enters_of Try.func46 (by kernel_rfl) rfl)
      (HX w0 w p m F d.to true (X + 2) (X + 1) X d sp ad N B (S + 1 + 1) S (S + 1) V (V + 1) (V + 1 + 1 + 1) (.func (.func 31) #[] #[.pointer (some ⟨S + 1 + 1, 0, none⟩), .pointer (some ⟨S, 0, none⟩), .pointer (some ⟨V + 1, 0, none⟩)]) (fun n => ansP d n (clsA m n)))
      ?hI ?hA KeepI ?hSp (fun _ _ _ h k => h.trans k) 0 HI0.out (fun k => .int .i64 ((hsOf m d.to true)[k]?.getD 0)) (fun k => k < (hsOf m d.to true).length) (fun k => k + 1) ?iter ?assign ?body ?done
    case hI =>
      intro k W l o o' h hl ho hc hw
      have hBl : B ≤ l := by rw [← HBE.out]; exact hl
      refine h.frL (Fr.putObj W l o') (fun x hx => ?_)
      simp at hx
      subst hx
      refine ⟨by omega, by omega, by omega, fun hm => by have := HFS.out _ hm; omega, fun cs t fz e => by rw [e] at ho; cases ho; cases hc⟩
    case hA => intro k W W' h f; exact h.frL f (by simp)
    case hSp => intro W l o o' hl ho hc hw; exact KeepI.put W l o o' ho hc
    case iter =>
      intro l J W hJ hd hY hj0
      exact hear_iter w0 p m d.to true _ _ _ hml l J (fun s W h => ⟨(hJ s W h).at_.atM, (hJ s W h).c5, (hJ s W h).c4, (hJ s W h).c3⟩) hd hY W hj0
    case assign =>
      intro l k W K hK
      simp only [List.setIfInBounds_toArray, List.set_cons_zero, List.set_cons_succ] at hK ⊢
      gi_wp2
      exact hK
    case body =>
      intro l k W h hmore
      have cF := h.cF.cell 0 rfl
      simp only [List.getElem_toArray, List.getElem_cons_zero] at cF
      have hx : (hsOf m d.to true)[k]?.getD 0 = (hsOf m d.to true)[k] := by rw [List.getElem?_eq_getElem hmore]; rfl
      have HX1 := Lib.hid hx
      obtain ⟨st, c9, hrow⟩ := h.c9
      have hrl := RowG.blk hrow
      have hans := plain_answer ((hsOf m d.to true)[k]?.getD 0) d sp w0 p m N B (V + 1) (S + 1 + 1) S st _ W h.at_.atM h.cP h.bts h.cS c9 hrow (by omega) (by omega) (by omega) (by omega) (by omega) h.size (by simp; omega) hi
      rw [hx] at hans
      have hfin : ∀ (W' : World) (st' : Sl), Blk W' (V + 1) #[.slice st'.A st'.n st'.c] 33 → PRow N B st' (((hsOf m d.to true).take k).map (fun n => ansP d n (clsA m n)) ++ [ansP d ((hsOf m d.to true)[k]) (clsA m ((hsOf m d.to true)[k]))]) W' → Fr ((V + 1) :: st.blk) W W' → KeepsOthers W W' ∧ (HX w0 w p m F d.to true (X + 2) (X + 1) X d sp ad N B (S + 1 + 1) S (S + 1) V (V + 1) (V + 1 + 1 + 1) (.func (.func 31) #[] #[.pointer (some ⟨S + 1 + 1, 0, none⟩), .pointer (some ⟨S, 0, none⟩), .pointer (some ⟨V + 1, 0, none⟩)]) (fun n => ansP d n (clsA m n))) (k + 1) W' ∧ KeepI W W' := by
        intro W' st' hT' hR' f'
        have hcs : ∀ x ∈ (V + 1) :: st.blk, x = V + 1 ∨ (B ≤ x ∧ ∃ cs, W.heap[x]? = some (.cells cs 29 (0, 0))) := fun x hx => by
          rcases List.mem_cons.1 hx with rfl | hx
          · exact .inl rfl
          · exact .inr (hrl x hx)
        have hcell : ∀ x ∈ (V + 1) :: st.blk, ∃ cs t, (t = 33 ∨ t = 29) ∧ W.heap[x]? = some (.cells cs t (0, 0)) := fun x hx => by
          rcases hcs x hx with rfl | ⟨_, cs, e⟩
          · exact ⟨_, _, .inl rfl, c9⟩
          · exact ⟨_, _, .inr rfl, e⟩
        have hno : ∀ t, t ≠ 33 → t ≠ 29 → ∀ x ∈ (V + 1) :: st.blk, ∀ cs fz, W.heap[x]? ≠ some (.cells cs t fz) := fun t h1 h2 x hx cs fz e => by
          obtain ⟨cs', t', ht, e'⟩ := hcell x hx
          rw [e'] at e
          cases e
          rcases ht with rfl | rfl
          · exact h1 rfl
          · exact h2 rfl
        have nb : ∀ {b : Nat}, b < B → b ≠ V + 1 → b ∉ (V + 1) :: st.blk := fun hb hne hm => by
          rcases hcs _ hm with h9 | ⟨h9, _⟩
          · exact hne h9
          · omega
        have hge : ∀ x ∈ (V + 1) :: st.blk, S ≤ x := fun x hx => by
          rcases hcs x hx with rfl | ⟨h9, _⟩ <;> omega
        refine ⟨KeepsOthers.fr f' fun x hx => ?_, ⟨h.at_.frL f' (fun x hx hm => ?_) (fun x hx => ?_), h.c5.fr f' (nb (by omega) (by omega)), h.c4.fr f' (nb (by omega) (by omega)), h.c3.fr f' (nb (by omega) (by omega)), h.cP.fr f' (nb (by omega) (by omega)), h.cS.fr f' (nb (by omega) (by omega)), h.cA.fr f' (nb (by omega) (by omega)), h.bts.frL f' (fun x hx => ⟨?_, hno _ (by decide) (by decide) x hx⟩), h.cF.fr f' (nb (by omega) (by omega)), h.c8.fr f' (nb (by omega) (by omega)), ⟨st', hT', ?_⟩, Nat.le_trans h.size f'.size, h.fr.trans f' (fun x hx => .inr ?_)⟩, KeepI.fr f' (hno _ (by decide) (by decide))⟩
        · obtain ⟨cs, t, _, e⟩ := hcell x hx; exact ⟨_, _, _, e⟩
        · have h1 := hge x hx; have := HFS.out x hm; omega
        · have := hge x hx; omega
        · have := hge x hx; omega
        · rw [take_map _ _ _ hmore]; exact hR'
        · have := hge x hx; omega
      have HFIN := Lib.hid hfin
      clear hx hfin hrl
      simp only [List.setIfInBounds_toArray, List.set_cons_zero, List.set_cons_succ]
      gi_wp2
      refine ⟨trivial, rfl, CallsIn.inRound l (callsIn_wide.2 (hans.mono ?_))⟩
      rintro e W' ⟨rfl, st', hT', hR', f'⟩
      have hfin2 := HFIN.out W' st' hT' hR' f'
      have HFIN2 := Lib.hid hfin2
      clear hfin2 hT' hR' f'
      gi_wp2
      exact HFIN2.out
    case done =>
      intro D k W hD hk h hdef
      obtain ⟨st, c9, hrow⟩ := h.c9
      have q8 := h.c8.cell 0 rfl
      have q9 := c9.cell 0 rfl
      simp only [List.getElem_toArray, List.getElem_cons_zero] at q8 q9
      have hall : ((hsOf m d.to true).take k).map (fun n => ansP d n (clsA m n)) = (hsOf m d.to true).map (fun n => ansP d n (clsA m n)) := by rw [List.take_of_length_le (by omega)]
      rw [hall] at hrow
      have hSB : w.heap.size ≤ B := by omega
      have hDB : B ≤ D := by rw [← HBE.out]; exact hD
      have hh := fun nq o' => h.done hrow hSB D o' nq ⟨by omega, by omega, by omega, fun hm => by have := HFS.out _ hm; omega⟩ hdef
      clear hrow hall c9 h hSB hDB
      have HH := Lib.hid hh
      clear hh
      go_wp2
      go_quiet (fail)
      go_wp2
      refine ⟨by simp, .inl ⟨_, _, rfl, run_takeDeferred hdef, ?_⟩⟩
      exact ⟨_, by simp [results, Try.results12, go_sem], st, rfl, HH.out _ _⟩

end Go.Proofs.Ytgmpikaibeenmaa
