/- Lemmas: TieZ, TieK, TieN, TieO, TieA, TieAa, TieAb, TieAc, MixP, TieAd, TieAe, TieAf, TieL. No condition. -/
import Derived.Test.YtneggoonlmmjeaaGreatKBoundGives3
import Derived.Laws.EntriesVeiled
import Derived.BigQuiet
namespace Go.Proofs.YtneggoonlmmjeaaGreat
open Go.RowKit Go.Shelf
set_option linter.unusedVariables false
set_option linter.unusedSimpArgs false
set_option maxRecDepth 100000

theorem isnil_t (A : Addr) (n c : Nat) (w : World) : (binOp BinOp.eql 151 (Value.slice (some A) n c) (Value.slice none 0 0)).run Tryz.prog w = .ok (.bool false) w := by kernel_rfl
theorem isnil_t0 (w : World) : (binOp BinOp.eql 151 (Value.slice none 0 0) (Value.slice none 0 0)).run Tryz.prog w = .ok (.bool true) w := by kernel_rfl
attribute [local go_sem] isnil_t isnil_t0 Oper.semAt_some
theorem tim_Clone (w : World) (b : Nat) (s : Sl) (most now : Int) (l : TL) (h : IsClk w b s most now l) (hl : l.length ≤ 1000) :
    Calls Tryz.prog 229 #[.slice s.A s.n s.c] w fun e w' => ∃ s' : Sl, e = .returned (.slice s'.A s'.n s'.c) ∧ NewRow w w' 158 2 s' l.length (tflat l) ∧ Fr [] w w' := by
  obtain ⟨i0, hi0, hz0, hz1, hz2⟩ := tim_info
  have hun : Tryz.prog.underlying 151 = some (.slice 158) := Tryz.underlying151
  obtain ⟨hlen, hown⟩ := h.own
  rcases hown with ⟨ev, e0⟩ | ⟨g, cap, cur, ev, _, hb, hcap, hmax, hsz, hx⟩
  · obtain ⟨A, n, c⟩ := s
    simp only [Sl.v, Value.slice.injEq] at ev
    obtain ⟨rfl, rfl, rfl⟩ := ev
    have hl0 : l = [] := List.eq_nil_of_length_eq_zero e0
    subst hl0
    clear h hlen
    go_enter Tryz.func229, Tryz.ntmps229
    go_wp2
    go_ret
    exact ⟨Sl.nil, rfl, NewRow.nil _ _ _ _, Fr.refl _ _⟩
  · obtain ⟨A, n, c⟩ := s
    simp only [Sl.v, Value.slice.injEq] at ev
    obtain ⟨rfl, rfl, rfl⟩ := ev
    have hsr : Src l.length (tflat l) (w.alloc (.cells #[] 158)) (.slice (some ⟨g, 0, none⟩) l.length c) := .inr ⟨⟨g, 0, none⟩, c, rfl, fun j u hj => by
      rw [Go.WideShapes.add_plain, Nat.zero_add]
      have hb' : Blk w g cur 158 := hb
      refine (hb'.alloc _).cell j ?_
      have hjl : j < l.length * 2 := by
        have := (List.getElem?_eq_some_iff.1 hj).1
        rwa [tflat_len] at this
      rw [← hx, List.getElem?_take, if_pos hjl] at hj
      rw [← Array.getElem?_toList]
      exact hj⟩
    have ho : (w.alloc (.cells #[] 158)).ownsRow 0 158 2 (Sl.v ⟨some ⟨w.heap.size, 0, none⟩, 0, 0⟩) 0 [] := World.ownsRow_made _ #[] 0 (Nat.zero_le _) (Nat.zero_le _) rfl
    have hone : ∀ u ∈ tflat l, u.oneCell' = true := by
      intro u hu
      obtain ⟨x, _, hx⟩ := List.mem_flatMap.1 hu
      simp only [tcell, List.mem_cons, List.not_mem_nil, or_false] at hx
      rcases hx with rfl | rfl <;> rfl
    have HSR := Lib.hid hsr
    have HO := Lib.hid ho
    have HONE := Lib.hid hone
    clear h hlen hb hcap hmax hsz hx hsr ho hone
    go_enter Tryz.func229, Tryz.ntmps229
    go_wp2_with (at_builtin; refine wpList_push rfl _ _ 151 rfl 158 i0 (.agg #[.int .i64 0, .int .i64 0]) 2 16 hun hi0 hz0 hz1 hz2 rfl (by decide) ⟨some ⟨w.heap.size, 0, none⟩, 0, 0⟩ 0 [] rfl HO.out (.slice (some ⟨g, 0, none⟩) l.length c) l.length (tflat l) rfl HSR.out (tflat_len l) HONE.out (by unfold maxLen; omega) (by omega) ?_)
    intro s' w3 hp
    have hsz := ((Fr.refl [] w).alloc (.cells #[] 158)).size
    have hnew : ∀ x ∈ s'.blk, w.heap.size ≤ x := fun x hx => by
      rcases hp.2.2 x hx with h1 | h1
      · simp [Sl.blk] at h1; omega
      · omega
    have hfr : Fr [] w w3 := ((Fr.refl [] w).alloc (.cells #[] 158)).trans hp.2.1 (fun x hx => .inr (by simp [Sl.blk] at hx; omega))
    have hro : NewRow w w3 158 2 s' l.length (tflat l) := ⟨by have := hp.1; simpa using this, hnew⟩
    have HFIN := Lib.hid (And.intro hro hfr)
    clear hp hsz hnew hfr hro
    go_wp2
    go_ret
    exact ⟨s', rfl, HFIN.out.1, HFIN.out.2⟩

theorem clk_Each (w : World) (b : Nat) (s : Sl) (most now : Int) (l : TL) (h : IsClk w b s most now l) (hl : l.length ≤ 1000) :
    Calls Tryz.prog 197 #[.pointer (some ⟨b, 0, none⟩)] w fun e w' => ∃ q, ∃ s' : Sl, e = .returned (.func (.func 230) #[] #[.pointer (some ⟨q, 0, none⟩)]) ∧ Blk w' q #[.slice s'.A s'.n s'.c] 151 ∧ NewRow w w' 158 2 s' l.length (tflat l) ∧ w.heap.size ≤ q ∧ Fr [] w w' := by
  have hq := Blk.new w #[.slice none 0 0] 151
  have f1 := (Fr.refl [] w).alloc (.cells #[.slice none 0 0] 151)
  have h1 := h.fr f1 (by simp)
  have c2 : (w.alloc (.cells #[.slice none 0 0] 151)).cell? ⟨b, 2, none⟩ = some (.slice s.A s.n s.c) := h1.head.cell 2 rfl
  have H1 := Lib.hid h1
  have F1 := Lib.hid f1
  have HQ : Hid (Blk (w.alloc (.cells #[.slice none 0 0] 151)) w.heap.size #[.slice none 0 0] 151) := Lib.hid hq
  clear h h1 f1 hq
  go_enter Tryz.func197, Tryz.ntmps197
  go_wp2_with fail
  refine (tim_Clone _ b s most now l H1.out hl).mono ?_
  rintro e w2 ⟨s', rfl, hn, f2⟩
  have hq2 : Blk w2 w.heap.size #[.slice none 0 0] 151 := HQ.out.fr f2 (by simp)
  have cq : w2.cell? ⟨w.heap.size, 0, none⟩ = some (.slice none 0 0) := hq2.cell 0 rfl
  have zq := hq2.free 0
  have hset : Blk (w2.setCell ⟨w.heap.size, 0, none⟩ (.slice s'.A s'.n s'.c)) w.heap.size #[.slice s'.A s'.n s'.c] 151 := Blk.set hq2 0 _ rfl
  have fs : Fr [] w (w2.setCell ⟨w.heap.size, 0, none⟩ (.slice s'.A s'.n s'.c)) := (F1.out.tr f2).setCell _ (.inr (Nat.le_refl _))
  have hqn : ∀ x ∈ s'.blk, x ≠ w.heap.size := fun x hx e => by
    have := hn.new x hx
    rw [World.size_alloc] at this
    omega
  have hro : NewRow w (w2.setCell ⟨w.heap.size, 0, none⟩ (.slice s'.A s'.n s'.c)) 158 2 s' l.length (tflat l) := by
    refine ⟨⟨hn.own.1, hn.own.2.imp id ?_⟩, fun x hx => by have := hn.new x hx; rw [World.size_alloc] at this; omega⟩
    rintro ⟨g, cap, cur, e, hg, hb', r⟩
    exact ⟨g, cap, cur, e, hg, (Blk.far (t := 158) hb' (p := ⟨w.heap.size, 0, none⟩) (hqn g (blk_mem e)) _ : Blk _ _ _ _), r⟩
  have HFIN := Lib.hid (And.intro hset (And.intro hro fs))
  clear hn f2 hq2 hset fs hqn hro
  go_wp2
  go_ret
  exact ⟨_, s', rfl, HFIN.out.1, HFIN.out.2.1, Nat.le_refl _, HFIN.out.2.2⟩

/-- What the iterator finds. -/
structure TCore (q : Nat) (s : Sl) (l : TL) (W : World) : Prop where
  cell : Blk W q #[.slice s.A s.n s.c] 151
  own : W.ownsRow 0 158 2 s.v l.length (tflat l)
theorem TCore.at_ {q : Nat} {s : Sl} {l : TL} {w : World} (h : TCore q s l w) (i : Nat) (hi : i < l.length) : ∃ g, s.A = some ⟨g, 0, none⟩ ∧ w.cell? ⟨g, i * 2, none⟩ = some (.int .i64 l[i].1) ∧ w.cell? ⟨g, i * 2 + 1, none⟩ = some (.int .i64 l[i].2) := by
  obtain ⟨g, hg, hc⟩ := own_at h.own (by omega)
  have hq := fun j hj => flat_get tcell 2 (fun _ => rfl) l i j hi hj
  exact ⟨g, hg, hc _ _ (by have := hq 0 (by omega); simpa [tflat, tcell] using this), hc _ _ (by have := hq 1 (by omega); simpa [tflat, tcell] using this)⟩
set_option maxHeartbeats 2000000 in
theorem tim_iter (q : Nat) (s : Sl) (l : TL) (hl : l.length ≤ 1000) (lb : Nat) (J : Nat → World → Prop) (hJ : ∀ k W, J k W → TCore q s l W) (hd : ∀ k W W', J k W → Fr [] W W' → J k W')
    (hY : ∀ k W, J k W → k < l.length → YieldAt Fence.wide 0 Tryz.prog lb #[.int .i64 (l[k]?.getD (0, 0)).1, .int .i64 (l[k]?.getD (0, 0)).2] W fun e W' => e = .returned (.bool true) ∧ J (k + 1) W' ∧ True) (W : World) (h0 : J 0 W) :
    CallsIn Fence.wide 0 Tryz.prog 230 #[.func (.yield lb) #[] #[], .pointer (some ⟨q, 0, none⟩)] W fun e W' => (∃ v, e = .returned v) ∧ ∃ k, ¬ k < l.length ∧ J k W' := by
  have hh := hJ _ _ h0
  have hn := own_n hh.own
  have c0 : W.cell? ⟨q, 0, none⟩ = some (.slice s.A s.n s.c) := hh.cell.cell 0 rfl
  obtain ⟨A, n, c⟩ := s
  simp only at hn c0
  subst hn
  clear hh
  refine callsIn_of_wp Tryz.func230 rfl trivial ?_ rfl
  simp only [Tryz.ntmps230, List.size_toArray, List.length_cons, List.length_nil, Nat.reduceAdd, Nat.reduceSub, Array.replicate_succ, Array.replicate_zero, List.push_toArray, List.append_toArray, List.nil_append, List.cons_append]
  gi_wp2
  gi_loopw [4, 7] (fun x i wr => ∃ j : Nat, i = .int .i64 j ∧ j ≤ l.length ∧ J j wr) (fun _ i _ => l.length - (intOf i).toNat)
  case atStart => exact ⟨0, rfl, by omega, h0⟩
  case round =>
    obtain ⟨j, rfl, hj, hJj⟩ := hrel
    clear h0 c0
    by_cases hlt : j < l.length
    · have d1 : decide ((j : Int) < (l.length : Int)) = true := by simp; omega
      have d2 : decide (j < l.length) = true := by simp; omega
      obtain ⟨g, hg, q0, q1⟩ := (hJ _ _ hJj).at_ j hlt
      simp only at hg
      subst hg
      have hx : l[j]?.getD (0, 0) = l[j] := by rw [List.getElem?_eq_getElem hlt]; rfl
      have hJ1 := fun o => hd _ _ _ hJj ((Fr.refl [] wr).alloc o)
      have hYj := fun o => hY j _ (hJ1 o) hlt
      rw [hx] at hYj
      generalize l[j] = x at *
      obtain ⟨x, y⟩ := x
      simp only at q0 q1 hYj
      have HY := Lib.hid (hYj (.cells #[.int .i64 x, .int .i64 y] 158))
      clear hx hYj hJ1
      obtain ⟨fn, tmps, assign, body, hy, hR⟩ := HY.out
      gi_wp2
      refine ⟨rfl, hR.mono ?_⟩
      rintro e W2 ⟨rfl, hJ2, -⟩
      gi_wp2
      go_roundw
      case rel => exact ⟨j + 1, by go_num, by omega, hJ2⟩
      case measure => simp [intOf]; omega
    · have d1 : decide ((j : Int) < (l.length : Int)) = false := by simp; omega
      gi_wp2
      go_end0
      exact ⟨⟨_, rfl⟩, j, hlt, hJj⟩

end Go.Proofs.YtneggoonlmmjeaaGreat
namespace Go.Proofs.YtneggoonlmmjeaaGreat
open Go.RowKit Go.Shelf
set_option linter.unusedVariables false
set_option linter.unusedSimpArgs false
set_option maxRecDepth 100000
attribute [local go_sem] Oper.semAt_some

theorem Fr.putObj (W : World) (l : Nat) (o' : Obj) : Fr [l] W (W.putObj l o') := ⟨rfl, rfl, rfl, by simp, fun k _ hn => World.putObj_heap_other (by simpa using hn)⟩
theorem KeepsOthers.fr {L : List Nat} {w w' : World} (f : Fr L w w') (hL : ∀ x ∈ L, ∃ cs t fz, w.heap[x]? = some (.cells cs t fz)) : KeepsOthers w w' :=
  ⟨f.size, fun k o e ho => f.keeps e fun hm => by
    obtain ⟨cs, t, fz, h⟩ := hL k hm
    rw [h] at e
    cases e
    cases ho⟩
theorem IsTie.cells {w : World} {v : TV} {m : TM} (h : IsTie w v m) : ∀ x ∈ v.foot, ∃ cs t f, w.heap[x]? = some (.cells cs t f) := by
  intro x hx
  simp only [TV.foot, List.mem_cons, List.mem_append] at hx
  obtain ⟨xs, ho⟩ := h.os.own
  obtain ⟨ys, hk⟩ := h.ok.own
  obtain ⟨zs, hq⟩ := h.back.que.row.own
  have key : ∀ {u : TypeId} {z n : Nat} {s : Sl} {xs : List Value}, w.ownsRow 0 u z s.v n xs → x ∈ s.blk → ∃ cs t f, w.heap[x]? = some (.cells cs t f) := fun ho hm => by
    obtain ⟨_, cs, e⟩ := own_blk ho x hm
    exact ⟨_, _, _, e⟩
  rcases hx with rfl | rfl | rfl | rfl | rfl | hx | hx | hx | hx | hx
  · exact ⟨_, _, _, h.blk⟩
  · exact ⟨_, _, _, h.back.back⟩
  · exact ⟨_, _, _, h.back.que.head⟩
  · exact ⟨_, _, _, h.win⟩
  · exact ⟨_, _, _, h.clk.head⟩
  · exact key hq hx
  · exact key h.clk.own hx
  · exact key ho hx
  · exact key h.oy hx
  · exact key hk hx
theorem tstop_head (x : Int × Int) (r : TL) : tstop (x :: r) x.1 = r := by simp [tstop, List.findIdx?_cons]
/-- Between two rounds. -/
def SI (w : World) (v : TV) (m : TM) (B q : Nat) (sr : Sl) (j : Nat) (W : World) : Prop :=
  ∃ s : Sl, IsTie W { v with cl := s } { m with tm := m.tm.drop j } ∧ Fr v.foot w W ∧ (∀ x ∈ ({ v with cl := s } : TV).foot, (x ∈ v.foot ∨ w.heap.size ≤ x) ∧ x ≠ B ∧ x ≠ q ∧ x ∉ sr.blk) ∧ Blk W B #[.pointer (some ⟨v.t, 0, none⟩)] 26 ∧ TCore q sr m.tm W ∧ w.heap.size ≤ B ∧ w.heap.size ≤ q ∧ ∀ x ∈ sr.blk, w.heap.size ≤ x
theorem TCore.fr {q : Nat} {s : Sl} {l : TL} {W W' : World} {L : List Nat} (h : TCore q s l W) (f : Fr L W W') (hq : q ∉ L) (hs : ∀ x ∈ s.blk, x ∉ L) : TCore q s l W' :=
  ⟨h.cell.fr f hq, h.own.1, h.own.2.imp id fun ⟨g, cap, cur, e, hg, hb, r⟩ => ⟨g, cap, cur, e, hg, f.keeps hb (hs g (blk_mem e)), r⟩⟩
theorem SI.on {w W W' : World} {v : TV} {m : TM} {B q : Nat} {sr : Sl} {j : Nat} (h : SI w v m B q sr j W) (f : Fr [] W W') : SI w v m B q sr j W' := by
  obtain ⟨s, h1, h2, h3, h4, h5, h6⟩ := h
  exact ⟨s, h1.fr0 f, h2.tr0 f, h3, h4.fr f (by simp), h5.fr f (by simp) (by simp), h6⟩
theorem SI.put {w W : World} {v : TV} {m : TM} {B q : Nat} {sr : Sl} {j l : Nat} {o o' : Obj} (h : SI w v m B q sr j W) (hv : v.hi ≤ w.heap.size) (hl : w.heap.size ≤ l) (ho : W.heap[l]? = some o) (hc : o.isCells = false) : SI w v m B q sr j (W.putObj l o') := by
  obtain ⟨s, h1, h2, h3, h4, h5, h6, h7, h8⟩ := h
  have no : ∀ {x : Nat}, (∃ cs t f, W.heap[x]? = some (.cells cs t f)) → x ∉ [l] := fun ⟨cs, t, f, e⟩ hm => by
    simp only [List.mem_singleton] at hm
    subst hm
    rw [ho] at e
    cases e
    cases hc
  have f := Fr.putObj W l o'
  refine ⟨s, h1.frL f (fun x hx hm => no (h1.cells x hm) hx) (fun x hx => by simp at hx; subst hx; exact Nat.le_trans hv hl) (fun x hx cs f' e => no ⟨_, _, _, e⟩ hx) (fun x hx e => by obtain ⟨cs, hb⟩ := h1.pcell e; exact no ⟨_, _, _, hb⟩ hx), h2.trans f (fun x hx => .inr (by simp at hx; subst hx; exact hl)), h3, h4.fr f (no ⟨_, _, _, h4⟩), h5.fr f (no ⟨_, _, _, h5.cell⟩) (fun x hx => no ?_), h6, h7, h8⟩
  obtain ⟨_, cs, e⟩ := own_blk h5.own x hx
  exact ⟨_, _, _, e⟩

set_option maxHeartbeats 4000000 in
theorem tie_stopAll (w : World) (v : TV) (m : TM) (h : IsTie w v m) (hl : m.tm.length ≤ 1000) :
    Calls Tryz.prog 151 #[.pointer (some ⟨v.t, 0, none⟩)] w fun e w' => e = .returned (.tuple #[]) ∧ TieTo w w' v { m with tm := [] } := by
  have hb := Blk.new w #[.pointer (some ⟨v.t, 0, none⟩)] 26
  have f1 := (Fr.refl [] w).alloc (.cells #[.pointer (some ⟨v.t, 0, none⟩)] 26)
  have h1 := h.fr0 f1
  have c15 := h1.c15
  have hlt := h.lt
  have hhi := h.hile
  have H1 := Lib.hid h1
  have F1 := Lib.hid f1
  have HLT := Lib.hid hlt
  have HB : Hid (Blk (w.alloc (.cells #[.pointer (some ⟨v.t, 0, none⟩)] 26)) w.heap.size #[.pointer (some ⟨v.t, 0, none⟩)] 26) := Lib.hid hb
  clear h h1 f1 hb hlt
  refine (callsIn_wide (n := 0)).1 ?_
  refine callsIn_of_wp_marks Tryz.func151 rfl trivial ?_ rfl
  simp only [Tryz.ntmps151, List.size_toArray, List.length_cons, List.length_nil, Nat.reduceAdd, Nat.reduceSub, Array.replicate_succ, Array.replicate_zero, List.push_toArray, List.append_toArray, List.nil_append, List.cons_append]
  refine wpIn_wide.2 ?_
  go_wp2_with fail
  refine (clk_Each _ v.c v.cl 4 v.now m.tm H1.out.clk hl).mono ?_
  rintro e w5 ⟨q, sr, rfl, hq, hn, hqn, f5⟩
  have hsz := F1.out.size
  have hbs : w.heap.size < (w.alloc (.cells #[.pointer (some ⟨v.t, 0, none⟩)] 26)).heap.size := HB.out.lt
  have hI0 : SI w v m w.heap.size q sr 0 w5 := by
    refine ⟨v.cl, H1.out.fr0 f5, (F1.out.tr f5).mono (by simp), fun x hx => ?_, HB.out.fr f5 (by simp), ⟨hq, hn.own⟩, Nat.le_refl _, by omega, fun x hx => by have := hn.new x hx; omega⟩
    have h1 := HLT.out x hx
    exact ⟨.inl hx, by omega, by omega, fun hm => by have := hn.new x hm; omega⟩
  have HI0 := Lib.hid hI0
  have hqs : w.heap.size ≤ w5.heap.size := (F1.out.tr f5).size
  clear hI0 hq hn f5 c15
  generalize hB5 : w.heap.size = B5 at *
  have HB5 := Lib.hid hB5
  clear hB5
  go_wp2
  refine wp_rangeFunc_step (σ := Nat) (gf := 230) (lb := #[.pointer (some ⟨q, 0, none⟩)]) rfl (enters_of Tryz.func230 (by kernel_rfl) rfl)
    (SI w v m B5 q sr) ?hI ?hA (fun _ _ => True) (fun _ _ _ _ _ _ _ _ => trivial) (fun _ _ _ _ _ => trivial) 0 HI0.out (fun k => #[.int .i64 (m.tm[k]?.getD (0, 0)).1, .int .i64 (m.tm[k]?.getD (0, 0)).2]) (fun _ => rfl) (fun k => k < m.tm.length) (fun k => k + 1) ?iter
    (fun k => { tmps := #[.pointer (some ⟨v.t, 0, none⟩), .pointer (some ⟨B5, 0, none⟩), .int .i64 (m.tm[k]?.getD (0, 0)).1, .pointer (some ⟨v.t, 0, none⟩), .pointer (some ⟨v.t, 0, none⟩), .pointer (some ⟨v.t, 15, none⟩), .pointer (some ⟨v.c, 0, none⟩), .func (.func 230) #[] #[.pointer (some ⟨q, 0, none⟩)], .int .i64 (m.tm[k]?.getD (0, 0)).1, .int .i64 (m.tm[k]?.getD (0, 0)).2, undef, undef, undef, undef, undef, undef], defers := [] }) ?assign ?body ?done
  case hI =>
    intro k W l o o' h hl ho hc hw
    have hBl : B5 ≤ l := Nat.le_trans hqs hl
    exact h.put (by rw [HB5.out]; exact hhi) (by rw [HB5.out]; exact hBl) ho hc
  case hA => intro k W W' h f; exact h.on f
  case iter =>
    intro l J W hJ hd hY hj0
    exact tim_iter q sr m.tm hl l J (fun k W h => by obtain ⟨_, _, _, _, _, h6, _⟩ := hJ k W h; exact h6) hd hY W hj0
  case assign =>
    intro l k W K hK
    gi_wp2
    exact hK
  case body =>
    intro l k W h hmore
    have hx : m.tm[k]?.getD (0, 0) = m.tm[k] := by rw [List.getElem?_eq_getElem hmore]; rfl
    have hdr : m.tm.drop k = m.tm[k] :: m.tm.drop (k + 1) := List.drop_eq_getElem_cons hmore
    obtain ⟨s, h1, h2, h3, h4, h5, h6, h7, h8⟩ := h
    have c15 := h1.c15
    have cB := h4.cell 0 rfl
    simp only [List.getElem_toArray, List.getElem_cons_zero] at cB
    have hcl : IsClk W v.c s 4 v.now (m.tm.drop k) := h1.clk
    have hlk : (m.tm.drop k).length ≤ 1000 := by rw [List.length_drop]; omega
    have hans := clk_Stop W v.c s 4 v.now (m.tm.drop k) (m.tm[k]?.getD (0, 0)).1 hcl hlk
    rw [hx, hdr, tstop_head] at hans
    have hfin : ∀ W', ClkTo W W' v.c s 4 v.now (m.tm.drop (k + 1)) → KeepsOthers W W' ∧ SI w v m B5 q sr (k + 1) W' := by
      intro W' hc
      obtain ⟨s', hk', f', n'⟩ := hc
      obtain ⟨g1, g2, g3⟩ := h1.setClk1 hk' f' n'
      have sB := h4.lt
      have sQ := h5.cell.lt
      have sR : ∀ x ∈ sr.blk, x < W.heap.size := fun x hx => by obtain ⟨_, cs, e⟩ := own_blk h5.own x hx; exact (Array.getElem?_eq_some_iff.1 e).1
      refine ⟨KeepsOthers.fr g2 h1.cells, s', g1, h2.trans g2 (fun x hx => (h3 x hx).1), fun x hx => ?_, h4.fr g2 (fun hm => (h3 _ hm).2.1 rfl), h5.fr g2 (fun hm => (h3 _ hm).2.2.1 rfl) (fun x hx hm => (h3 _ hm).2.2.2 hx), h6, h7, h8⟩
      rcases g3 x hx with h9 | h9
      · exact h3 x h9
      · exact ⟨.inr (Nat.le_trans h2.size h9), by omega, by omega, fun hm => by have := sR x hm; omega⟩
    have HFIN := Lib.hid hfin
    clear hfin hdr hlk hcl h1 h2 h3 h4 h5
    simp only at c15
    gi_wp2
    rw [hx]
    refine ⟨trivial, rfl, CallsIn.inRound l (callsIn_wide.2 (hans.mono ?_))⟩
    rintro e W' ⟨rfl, hc⟩
    have HF2 := Lib.hid (HFIN.out W' hc)
    clear hc
    gi_wp2
    exact ⟨HF2.out.1, HF2.out.2, trivial⟩
  case done =>
    intro D k W hD hk h hdef
    have hdr : m.tm.drop k = [] := List.drop_eq_nil_of_le (by omega)
    have hput : ∀ o', TieTo w (W.putObj D o') v { m with tm := [] } := by
      intro o'
      have h9 := h.put (o' := o') (by rw [HB5.out]; exact hhi) (by rw [HB5.out]; exact Nat.le_trans hqs hD) hdef rfl
      obtain ⟨s, h1, h2, h3, _⟩ := h9
      rw [hdr] at h1
      exact ⟨_, h1, rfl, rfl, h2, fun x hx => (h3 x hx).1⟩
    have HP := Lib.hid hput
    clear hput h hdr
    go_wp2
    refine ⟨by simp, .inl ⟨_, _, rfl, run_takeDeferred hdef, ?_⟩⟩
    exact ⟨_, by simp [results, Tryz.results151, go_sem], rfl, HP.out _⟩

end Go.Proofs.YtneggoonlmmjeaaGreat
namespace Go.Proofs.YtneggoonlmmjeaaGreat
open Go.RowKit Go.Shelf
set_option linter.unusedVariables false
set_option linter.unusedSimpArgs false
set_option maxRecDepth 100000

def numB (n : Int) : List Int := [n / 16777216, n / 65536 % 256, n / 256 % 256, n % 256]
theorem u8_wf {x : Int} (h0 : 0 ≤ x) (h1 : x ≤ 255) : (Lit.int .u8 x).wf = true := by
  simp only [Lit.wf, IntKind.min, IntKind.max, IntKind.signed, IntKind.bits, Bool.and_eq_true, decide_eq_true_eq]
  simpa using ⟨h0, h1⟩
theorem numB_wf (n : Int) (h0 : 0 ≤ n) (h1 : n < 4294967296) : ∀ x ∈ numB n, (Lit.int .u8 x).wf = true := by
  intro x hx
  simp only [numB, List.mem_cons, List.not_mem_nil, or_false] at hx
  rcases hx with rfl | rfl | rfl | rfl <;> exact u8_wf (by omega) (by omega)
theorem u8_info : ∃ i0 : TypeInfo, Tryz.prog.info? 5 = some i0 ∧ i0.zero = some (.int .u8 0) ∧ i0.size = 1 ∧ i0.bytes = 1 :=
  info_parts (show (Tryz.prog.info? 5).map (fun i => (i.zero, i.size, i.bytes)) = some (some (.int .u8 0), 1, 1) by kernel_rfl)

theorem oct_may4 (w : World) : Calls Tryz.prog 170 #[.int .i64 4] w fun e w' => e = .returned (.bool true) ∧ w = w' := by
  go_enter Tryz.func170, Tryz.ntmps170
  go_wp2
  go_ret
  exact ⟨rfl, rfl⟩

set_option maxHeartbeats 2000000 in
theorem oct_Put4 (w : World) (n : Int) (h0 : 0 ≤ n) (h1 : n < 4294967296) :
    Calls Tryz.prog 223 #[.int .i64 n, .int .i64 4] w fun e w' => ∃ s : Sl, e = .returned (.slice s.A s.n s.c) ∧ NewRow w w' 5 1 s (numB n).length ((numB n).map (Value.int .u8)) ∧ Fr [] w w' := by
  obtain ⟨i0, hi0, hz0, hz1, hz2⟩ := u8_info
  have hun : Tryz.prog.underlying 49 = some (.slice 5) := Tryz.underlying49
  have d0 : decide (n < 0) = false := by simp; omega
  have hsh : n / 4294967296 = 0 := by omega
  go_enter Tryz.func223, Tryz.ntmps223
  go_wp2_with fail
  refine (oct_may4 w).mono ?_
  rintro e w1 ⟨rfl, rfl⟩
  go_wp2
  clear hsh d0
  go_loopw [5, 6] (fun bv i wr => ∃ j : Nat, ∃ s : Sl, bv = .slice s.A s.n s.c ∧ i = .int .i64 (3 - (j : Int)) ∧ j ≤ 4 ∧ Fr [] w wr ∧ NewRow w wr 5 1 s ((numB n).take j).length (((numB n).take j).map (Value.int .u8))) (fun _ i _ => (intOf i + 1).toNat)
  case atStart => exact ⟨0, Sl.nil, rfl, rfl, by omega, Fr.refl _ _, NewRow.nil _ _ _ _⟩
  case round =>
    obtain ⟨j, s, rfl, rfl, hj, fr, hr⟩ := hrel
    obtain rfl | rfl | rfl | rfl | rfl : j = 0 ∨ j = 1 ∨ j = 2 ∨ j = 3 ∨ j = 4 := by omega
    · have ho := hr
      have HF := Lib.hid fr
      have HO := Lib.hid ho
      have F2 := Lib.hid (fr.alloc (.cells #[.int .u8 (n / 16777216)] 5))
      have HO2 := Lib.hid (own_fr ho.own ((Fr.refl [] wr).alloc (.cells #[.int .u8 (n / 16777216)] 5)))
      have HN2 := Lib.hid (ho.fr ((Fr.refl [] wr).alloc (.cells #[.int .u8 (n / 16777216)] 5)))
      clear ho hr fr
      go_wp2_with (at_builtin; refine wpList_push rfl _ _ 49 rfl 5 i0 (.int .u8 0) 1 1 hun hi0 hz0 hz1 hz2 rfl (by decide) s 0 _ rfl HO2.out _ 1 [.int .u8 (n / 16777216)] rfl Src.one rfl (by intro u hu; simp at hu; subst hu; rfl) (by unfold maxLen; omega) (by omega) ?_)
      intro s3 w3 hp
      have h3 := HN2.out.push F2.out.size hp
      have F3 := HN2.out.frOf F2.out hp
      clear hp
      go_wp2
      go_roundw
      case rel => exact ⟨1, s3, rfl, by go_num, by omega, F3, h3⟩
      case measure => simp [intOf]
    · have ho := hr
      have HF := Lib.hid fr
      have HO := Lib.hid ho
      have F2 := Lib.hid (fr.alloc (.cells #[.int .u8 (n / 65536 % 256)] 5))
      have HO2 := Lib.hid (own_fr ho.own ((Fr.refl [] wr).alloc (.cells #[.int .u8 (n / 65536 % 256)] 5)))
      have HN2 := Lib.hid (ho.fr ((Fr.refl [] wr).alloc (.cells #[.int .u8 (n / 65536 % 256)] 5)))
      clear ho hr fr
      go_wp2_with (at_builtin; refine wpList_push rfl _ _ 49 rfl 5 i0 (.int .u8 0) 1 1 hun hi0 hz0 hz1 hz2 rfl (by decide) s 1 _ rfl HO2.out _ 1 [.int .u8 (n / 65536 % 256)] rfl Src.one rfl (by intro u hu; simp at hu; subst hu; rfl) (by unfold maxLen; omega) (by omega) ?_)
      intro s3 w3 hp
      have h3 := HN2.out.push F2.out.size hp
      have F3 := HN2.out.frOf F2.out hp
      clear hp
      go_wp2
      go_roundw
      case rel => exact ⟨2, s3, rfl, by go_num, by omega, F3, h3⟩
      case measure => simp [intOf]
    · have ho := hr
      have HF := Lib.hid fr
      have HO := Lib.hid ho
      have F2 := Lib.hid (fr.alloc (.cells #[.int .u8 (n / 256 % 256)] 5))
      have HO2 := Lib.hid (own_fr ho.own ((Fr.refl [] wr).alloc (.cells #[.int .u8 (n / 256 % 256)] 5)))
      have HN2 := Lib.hid (ho.fr ((Fr.refl [] wr).alloc (.cells #[.int .u8 (n / 256 % 256)] 5)))
      clear ho hr fr
      go_wp2_with (at_builtin; refine wpList_push rfl _ _ 49 rfl 5 i0 (.int .u8 0) 1 1 hun hi0 hz0 hz1 hz2 rfl (by decide) s 2 _ rfl HO2.out _ 1 [.int .u8 (n / 256 % 256)] rfl Src.one rfl (by intro u hu; simp at hu; subst hu; rfl) (by unfold maxLen; omega) (by omega) ?_)
      intro s3 w3 hp
      have h3 := HN2.out.push F2.out.size hp
      have F3 := HN2.out.frOf F2.out hp
      clear hp
      go_wp2
      go_roundw
      case rel => exact ⟨3, s3, rfl, by go_num, by omega, F3, h3⟩
      case measure => simp [intOf]
    · have ho := hr
      have HF := Lib.hid fr
      have HO := Lib.hid ho
      have F2 := Lib.hid (fr.alloc (.cells #[.int .u8 (n % 256)] 5))
      have HO2 := Lib.hid (own_fr ho.own ((Fr.refl [] wr).alloc (.cells #[.int .u8 (n % 256)] 5)))
      have HN2 := Lib.hid (ho.fr ((Fr.refl [] wr).alloc (.cells #[.int .u8 (n % 256)] 5)))
      clear ho hr fr
      go_wp2_with (at_builtin; refine wpList_push rfl _ _ 49 rfl 5 i0 (.int .u8 0) 1 1 hun hi0 hz0 hz1 hz2 rfl (by decide) s 3 _ rfl HO2.out _ 1 [.int .u8 (n % 256)] rfl Src.one rfl (by intro u hu; simp at hu; subst hu; rfl) (by unfold maxLen; omega) (by omega) ?_)
      intro s3 w3 hp
      have h3 := HN2.out.push F2.out.size hp
      have F3 := HN2.out.frOf F2.out hp
      clear hp
      go_wp2
      go_roundw
      case rel => exact ⟨4, s3, rfl, by go_num, by omega, F3, h3⟩
      case measure => simp [intOf]
    · have H := Lib.hid (And.intro hr fr)
      clear hr fr
      go_wp2
      go_ret
      exact ⟨s, rfl, H.out.1, H.out.2⟩

theorem fld_Number (w : World) (n : Int) (h0 : 0 ≤ n) (h1 : n < 4294967296) :
    Calls Tryz.prog 189 #[.int .i64 n] w fun e w' => ∃ s : Sl, e = .returned (.slice s.A s.n s.c) ∧ Bts 0 w' s (numB n) ∧ Fr [] w w' := by
  go_enter Tryz.func189, Tryz.ntmps189
  go_wp2_with fail
  refine (oct_Put4 w n h0 h1).mono ?_
  rintro e w1 ⟨s, rfl, hr, f⟩
  have hn : s.n = 4 := own_n hr.own
  have H := Lib.hid (And.intro hr f)
  clear hr f
  obtain ⟨A, n', c⟩ := s
  simp only at hn
  subst hn
  go_wp2
  go_ret
  exact ⟨_, rfl, Bts.own H.out.1.own (numB_wf n h0 h1) 0, H.out.2⟩

end Go.Proofs.YtneggoonlmmjeaaGreat
namespace Go.Proofs.YtneggoonlmmjeaaGreat
open Go.RowKit Go.Shelf
set_option linter.unusedVariables false
set_option linter.unusedSimpArgs false
set_option maxRecDepth 100000

/-- The command's closure: own number. -/
def cmdD (m : TM) (kind : Int) : PD := ⟨0, 0, false, 2, kind, 0, 0, true, numB m.own⟩
def rspD (m : TM) (kind : Int) : PD := ⟨0, 0, true, 2, kind, 0, 0, m.poll, numB m.num⟩
def stsD (m : TM) (kind : Int) (f : Bool) : PD := ⟨0, 0, true, 1, kind, 0, m.vr, f, []⟩
def askD (m : TM) (kind : Int) : PD := ⟨0, 0, false, 1, kind, 0, m.vr, true, []⟩
def askM (m : TM) (kind : Int) : TM := { sendM m (askD m kind) with tm := tstop m.tm 29 }

set_option maxHeartbeats 2000000 in
theorem tie_command1 (w : World) (v : TV) (m : TM) (kind : Int) (b0 b1 : Nat) (h : IsTie w v m) (h0 : w.cell? ⟨b0, 0, none⟩ = some (.pointer (some ⟨v.t, 0, none⟩))) (h1 : w.cell? ⟨b1, 0, none⟩ = some (.int .i64 kind)) (ho0 : 0 ≤ m.own) (ho1 : m.own < 4294967296) (hs : m.send.length ≤ 100000) :
    Calls Tryz.prog 187 #[.pointer (some ⟨b0, 0, none⟩), .pointer (some ⟨b1, 0, none⟩)] w fun e w' => e = .returned (.tuple #[]) ∧ TieTo w w' v (sendM m (cmdD m kind)) := by
  have k0 : ∀ wx, Fr [] w wx → wx.cell? ⟨b0, 0, none⟩ = some (.pointer (some ⟨v.t, 0, none⟩)) := fun wx hf => hf.cell h0 (by simp)
  have k1 : ∀ wx, Fr [] w wx → wx.cell? ⟨b1, 0, none⟩ = some (.int .i64 kind) := fun wx hf => hf.cell h1 (by simp)
  have k16 : ∀ wx, Fr [] w wx → wx.cell? ⟨v.t, 16, none⟩ = some (.int .i64 m.own) := fun wx hf => hf.cell h.c16 (by simp)
  have HT := Lib.hid h
  clear h
  go_enter Tryz.func187, Tryz.ntmps187
  go_wp2
  refine wp_region_keepsC [] [false, false, false, false, false, false, false, false] [none, none, none, none, none, none, some 7, some 8] (fun _ => True) [Is (.pointer (some ⟨v.t, 0, none⟩)), Is (.int .i64 kind), Is (.pointer (some ⟨v.t, 0, none⟩)), Is (.pointer (some ⟨v.t, 0, none⟩)), Is (.pointer (some ⟨v.t, 16, none⟩)), Is (.int .i64 m.own), (CloneF 0 (numB m.own)), (AggF 0 (numB m.own) (cmdD m kind).arr)] 8 (by kernel_rfl) (by kernel_rfl) (by kernel_rfl) (by kernel_rfl) (by kernel_rfl) (by kernel_rfl) (by kernel_rfl) (by kernel_rfl) ?hV (fun _ _ _ h => h) trivial ?hS ?hD
  case hV =>
    repeat (first | exact trivial | exact Is.keepsN _ | exact Any.keepsN | exact CloneF.keeps | exact AggF.keeps | refine And.intro ?_ ?_)
  case hS =>
    (repeat' (first | exact trivial | refine And.intro ?_ ?_))
    · intro ac wx hf hbs hs hp K hK
      simp only [waits, holdsA, nth, Is, Any, List.filter_cons, List.filter_nil, List.map_cons, List.map_nil, Region.binds, if_true, true_and, and_true, Nat.reduceAdd, List.getElem?_cons_zero, List.getElem?_cons_succ, Option.bind_some, Array.getD_eq_getD_getElem?] at hp
      have hs0 := hs 0 (by kernel_rfl)
      simp only [Array.getD_eq_getD_getElem?, List.getElem?_toArray, List.getElem?_cons_succ, List.getElem?_cons_zero, Option.getD_some] at hs0
      clear hs
      clear hbs
      clear hp
      have cx := k0 wx hf
      clear hf
      go_simp
      try dsimp only
      refine hK.out _ _ ?_ ?_
      · change Fr [] _ _
        ((repeat (first | (with_reducible exact Fr.refl _ _) | (with_reducible assumption) | (with_reducible refine Fr.drew ?_) | (with_reducible refine Fr.drewN ?_ _) | (with_reducible refine Fr.alloc ?_ _) | (with_reducible refine Fr.setL ?_ _ _ _ ?_) | (focus (refine Or.inl ?_; simp; done)) | (focus (refine Or.inr ?_; simp; done)) | (focus (refine Or.inr ?_; simp; omega)) | (focus (refine Or.inr ?_; omega)))); done)
      · simp only [nth]
        first | (unfold Is; rfl) | (unfold Any; exact trivial) | exact IsSl.new _ _ _ _ | assumption
    · intro ac wx hf hbs hs hp K hK
      simp only [waits, holdsA, nth, Is, Any, List.filter_cons, List.filter_nil, List.map_cons, List.map_nil, Region.binds, if_true, true_and, and_true, Nat.reduceAdd, List.getElem?_cons_zero, List.getElem?_cons_succ, Option.bind_some, Array.getD_eq_getD_getElem?] at hp
      have hs1 := hs 1 (by kernel_rfl)
      simp only [Array.getD_eq_getD_getElem?, List.getElem?_toArray, List.getElem?_cons_succ, List.getElem?_cons_zero, Option.getD_some] at hs1
      clear hs
      clear hbs
      clear hp
      have cx := k1 wx hf
      clear hf
      go_simp
      try dsimp only
      refine hK.out _ _ ?_ ?_
      · change Fr [] _ _
        ((repeat (first | (with_reducible exact Fr.refl _ _) | (with_reducible assumption) | (with_reducible refine Fr.drew ?_) | (with_reducible refine Fr.drewN ?_ _) | (with_reducible refine Fr.alloc ?_ _) | (with_reducible refine Fr.setL ?_ _ _ _ ?_) | (focus (refine Or.inl ?_; simp; done)) | (focus (refine Or.inr ?_; simp; done)) | (focus (refine Or.inr ?_; simp; omega)) | (focus (refine Or.inr ?_; omega)))); done)
      · simp only [nth]
        first | (unfold Is; rfl) | (unfold Any; exact trivial) | exact IsSl.new _ _ _ _ | assumption
    · intro ac wx hf hbs hs hp K hK
      simp only [waits, holdsA, nth, Is, Any, List.filter_cons, List.filter_nil, List.map_cons, List.map_nil, Region.binds, if_true, true_and, and_true, Nat.reduceAdd, List.getElem?_cons_zero, List.getElem?_cons_succ, Option.bind_some, Array.getD_eq_getD_getElem?] at hp
      have hs0 := hs 0 (by kernel_rfl)
      simp only [Array.getD_eq_getD_getElem?, List.getElem?_toArray, List.getElem?_cons_succ, List.getElem?_cons_zero, Option.getD_some] at hs0
      clear hs
      clear hbs
      clear hp
      have cx := k0 wx hf
      clear hf
      go_simp
      try dsimp only
      refine hK.out _ _ ?_ ?_
      · change Fr [] _ _
        ((repeat (first | (with_reducible exact Fr.refl _ _) | (with_reducible assumption) | (with_reducible refine Fr.drew ?_) | (with_reducible refine Fr.drewN ?_ _) | (with_reducible refine Fr.alloc ?_ _) | (with_reducible refine Fr.setL ?_ _ _ _ ?_) | (focus (refine Or.inl ?_; simp; done)) | (focus (refine Or.inr ?_; simp; done)) | (focus (refine Or.inr ?_; simp; omega)) | (focus (refine Or.inr ?_; omega)))); done)
      · simp only [nth]
        first | (unfold Is; rfl) | (unfold Any; exact trivial) | exact IsSl.new _ _ _ _ | assumption
    · intro ac wx hf hbs hs hp K hK
      simp only [waits, holdsA, nth, Is, Any, List.filter_cons, List.filter_nil, List.map_cons, List.map_nil, Region.binds, if_true, true_and, and_true, Nat.reduceAdd, List.getElem?_cons_zero, List.getElem?_cons_succ, Option.bind_some, Array.getD_eq_getD_getElem?] at hp
      clear hs
      clear hbs
      have h2 := hp
      clear hp
      clear hf
      (try simp only [h2])
      go_simp
      try dsimp only
      refine hK.out _ _ ?_ ?_
      · change Fr [] _ _
        ((repeat (first | (with_reducible exact Fr.refl _ _) | (with_reducible assumption) | (with_reducible refine Fr.drew ?_) | (with_reducible refine Fr.drewN ?_ _) | (with_reducible refine Fr.alloc ?_ _) | (with_reducible refine Fr.setL ?_ _ _ _ ?_) | (focus (refine Or.inl ?_; simp; done)) | (focus (refine Or.inr ?_; simp; done)) | (focus (refine Or.inr ?_; simp; omega)) | (focus (refine Or.inr ?_; omega)))); done)
      · simp only [nth]
        first | (unfold Is; rfl) | (unfold Any; exact trivial) | exact IsSl.new _ _ _ _ | assumption
    · intro ac wx hf hbs hs hp K hK
      simp only [waits, holdsA, nth, Is, Any, List.filter_cons, List.filter_nil, List.map_cons, List.map_nil, Region.binds, if_true, true_and, and_true, Nat.reduceAdd, List.getElem?_cons_zero, List.getElem?_cons_succ, Option.bind_some, Array.getD_eq_getD_getElem?] at hp
      clear hs
      clear hbs
      have h3 := hp
      clear hp
      clear hf
      (try simp only [h3])
      go_simp
      try dsimp only
      refine hK.out _ _ ?_ ?_
      · change Fr [] _ _
        ((repeat (first | (with_reducible exact Fr.refl _ _) | (with_reducible assumption) | (with_reducible refine Fr.drew ?_) | (with_reducible refine Fr.drewN ?_ _) | (with_reducible refine Fr.alloc ?_ _) | (with_reducible refine Fr.setL ?_ _ _ _ ?_) | (focus (refine Or.inl ?_; simp; done)) | (focus (refine Or.inr ?_; simp; done)) | (focus (refine Or.inr ?_; simp; omega)) | (focus (refine Or.inr ?_; omega)))); done)
      · simp only [nth]
        first | (unfold Is; rfl) | (unfold Any; exact trivial) | exact IsSl.new _ _ _ _ | assumption
    · intro ac wx hf hbs hs hp K hK
      simp only [waits, holdsA, nth, Is, Any, List.filter_cons, List.filter_nil, List.map_cons, List.map_nil, Region.binds, if_true, true_and, and_true, Nat.reduceAdd, List.getElem?_cons_zero, List.getElem?_cons_succ, Option.bind_some, Array.getD_eq_getD_getElem?] at hp
      clear hs
      clear hbs
      have h4 := hp
      clear hp
      have cx := k16 wx hf
      clear hf
      (try simp only [h4])
      go_simp
      try dsimp only
      refine hK.out _ _ ?_ ?_
      · change Fr [] _ _
        ((repeat (first | (with_reducible exact Fr.refl _ _) | (with_reducible assumption) | (with_reducible refine Fr.drew ?_) | (with_reducible refine Fr.drewN ?_ _) | (with_reducible refine Fr.alloc ?_ _) | (with_reducible refine Fr.setL ?_ _ _ _ ?_) | (focus (refine Or.inl ?_; simp; done)) | (focus (refine Or.inr ?_; simp; done)) | (focus (refine Or.inr ?_; simp; omega)) | (focus (refine Or.inr ?_; omega)))); done)
      · simp only [nth]
        first | (unfold Is; rfl) | (unfold Any; exact trivial) | exact IsSl.new _ _ _ _ | assumption
    · intro ac wx hf hbs hs hp K hK
      simp only [waits, holdsA, nth, Is, Any, List.filter_cons, List.filter_nil, List.map_cons, List.map_nil, Region.binds, if_true, true_and, and_true, Nat.reduceAdd, List.getElem?_cons_zero, List.getElem?_cons_succ, Option.bind_some, Array.getD_eq_getD_getElem?] at hp
      clear hs
      have h5 := hp
      clear hp
      (try simp only [h5])
      go_simp
      go_at_call 189
      refine (fld_Number _ m.own ho0 ho1).mono ?_
      rintro e w' ⟨sb, rfl, hbs2, fz⟩
      refine hK.out _ _ ?_ ?_
      · change Fr [] _ _
        exact fz
      · simp only [nth]
        exact ⟨sb, rfl, hbs2⟩
    · intro ac wx hf hbs hs hp K hK
      simp only [waits, holdsA, nth, Is, Any, List.filter_cons, List.filter_nil, List.map_cons, List.map_nil, Region.binds, if_true, true_and, and_true, Nat.reduceAdd, List.getElem?_cons_zero, List.getElem?_cons_succ, Option.bind_some, Array.getD_eq_getD_getElem?] at hp
      clear hs
      clear hbs
      obtain ⟨h1, h6⟩ := hp
      obtain ⟨sb, e6, hb6⟩ := h6
      clear hf
      (try simp only [h1, e6])
      go_simp
      refine hK.out _ _ ?_ ?_
      · change Fr [] _ _
        exact Fr.refl _ _
      · simp only [nth]
        exact ⟨sb, rfl, hb6⟩
  case hD =>
    intro xv wx hf hp
    simp only [List.take_succ_cons, List.take_zero, List.drop_succ_cons, List.drop_zero, fill, List.setIfInBounds_toArray, List.set_cons_zero, List.set_cons_succ, Nat.reduceAdd, Act.put]
    rw [show live 8 (deadC [none, none, none, none, none, none, some 7, some 8]) = [0, 1, 2, 3, 4, 5, 7] from by decide] at hp
    simp only [holds, nth, Is, Any, true_and, and_true] at hp
    obtain ⟨p0, p1, p2, p3, p4, p5, p7⟩ := hp
    obtain ⟨sb, e7, hB⟩ := p7
    simp only [p0, e7]
    have hT2 := HT.out.fr0 hf
    have HS := Lib.hid (tie_send wx v m (cmdD m kind) sb hT2 hB hs)
    have HF := Lib.hid hf
    clear hB hT2 hf p0 p1 p2 p3 p4 p5 e7 k0 k1 k16
    go_wp2_with fail
    refine HS.out.mono ?_
    rintro e w2 ⟨rfl, ht⟩
    have HFIN := Lib.hid (TieTo.trans (HF.out.mono (by simp)) (fun x hx => .inl hx) rfl rfl ht)
    clear ht
    go_wp2
    go_end0
    exact ⟨rfl, HFIN.out⟩

set_option maxHeartbeats 2000000 in
theorem tie_response1 (w : World) (v : TV) (m : TM) (kind : Int) (b0 b1 : Nat) (h : IsTie w v m) (h0 : w.cell? ⟨b0, 0, none⟩ = some (.pointer (some ⟨v.t, 0, none⟩))) (h1 : w.cell? ⟨b1, 0, none⟩ = some (.int .i64 kind)) (ho0 : 0 ≤ m.num) (ho1 : m.num < 4294967296) (hs : m.send.length ≤ 100000) :
    Calls Tryz.prog 190 #[.pointer (some ⟨b0, 0, none⟩), .pointer (some ⟨b1, 0, none⟩)] w fun e w' => e = .returned (.tuple #[]) ∧ TieTo w w' v (sendM m (rspD m kind)) := by
  have k0 : ∀ wx, Fr [] w wx → wx.cell? ⟨b0, 0, none⟩ = some (.pointer (some ⟨v.t, 0, none⟩)) := fun wx hf => hf.cell h0 (by simp)
  have k1 : ∀ wx, Fr [] w wx → wx.cell? ⟨b1, 0, none⟩ = some (.int .i64 kind) := fun wx hf => hf.cell h1 (by simp)
  have k35 : ∀ wx, Fr [] w wx → wx.cell? ⟨v.t, 35, none⟩ = some (.bool m.poll) := fun wx hf => hf.cell h.c35 (by simp)
  have k36 : ∀ wx, Fr [] w wx → wx.cell? ⟨v.t, 36, none⟩ = some (.int .i64 m.num) := fun wx hf => hf.cell h.c36 (by simp)
  have HT := Lib.hid h
  clear h
  go_enter Tryz.func190, Tryz.ntmps190
  go_wp2
  refine wp_region_keepsC [] [false, false, false, false, false, false, false, false, false, false, false, false] [none, none, none, none, none, none, none, none, none, none, some 11, some 12] (fun _ => True) [Is (.pointer (some ⟨v.t, 0, none⟩)), Is (.int .i64 kind), Is (.pointer (some ⟨v.t, 0, none⟩)), Is (.pointer (some ⟨v.t, 0, none⟩)), Is (.pointer (some ⟨v.t, 35, none⟩)), Is (.bool m.poll), Is (.pointer (some ⟨v.t, 0, none⟩)), Is (.pointer (some ⟨v.t, 0, none⟩)), Is (.pointer (some ⟨v.t, 36, none⟩)), Is (.int .i64 m.num), (CloneF 0 (numB m.num)), (AggF 0 (numB m.num) (rspD m kind).arr)] 12 (by kernel_rfl) (by kernel_rfl) (by kernel_rfl) (by kernel_rfl) (by kernel_rfl) (by kernel_rfl) (by kernel_rfl) (by kernel_rfl) ?hV (fun _ _ _ h => h) trivial ?hS ?hD
  case hV =>
    repeat (first | exact trivial | exact Is.keepsN _ | exact Any.keepsN | exact CloneF.keeps | exact AggF.keeps | refine And.intro ?_ ?_)
  case hS =>
    (repeat' (first | exact trivial | refine And.intro ?_ ?_))
    · intro ac wx hf hbs hs hp K hK
      simp only [waits, holdsA, nth, Is, Any, List.filter_cons, List.filter_nil, List.map_cons, List.map_nil, Region.binds, if_true, true_and, and_true, Nat.reduceAdd, List.getElem?_cons_zero, List.getElem?_cons_succ, Option.bind_some, Array.getD_eq_getD_getElem?] at hp
      have hs0 := hs 0 (by kernel_rfl)
      simp only [Array.getD_eq_getD_getElem?, List.getElem?_toArray, List.getElem?_cons_succ, List.getElem?_cons_zero, Option.getD_some] at hs0
      clear hs
      clear hbs
      clear hp
      have cx := k0 wx hf
      clear hf
      go_simp
      try dsimp only
      refine hK.out _ _ ?_ ?_
      · change Fr [] _ _
        ((repeat (first | (with_reducible exact Fr.refl _ _) | (with_reducible assumption) | (with_reducible refine Fr.drew ?_) | (with_reducible refine Fr.drewN ?_ _) | (with_reducible refine Fr.alloc ?_ _) | (with_reducible refine Fr.setL ?_ _ _ _ ?_) | (focus (refine Or.inl ?_; simp; done)) | (focus (refine Or.inr ?_; simp; done)) | (focus (refine Or.inr ?_; simp; omega)) | (focus (refine Or.inr ?_; omega)))); done)
      · simp only [nth]
        first | (unfold Is; rfl) | (unfold Any; exact trivial) | exact IsSl.new _ _ _ _ | assumption
    · intro ac wx hf hbs hs hp K hK
      simp only [waits, holdsA, nth, Is, Any, List.filter_cons, List.filter_nil, List.map_cons, List.map_nil, Region.binds, if_true, true_and, and_true, Nat.reduceAdd, List.getElem?_cons_zero, List.getElem?_cons_succ, Option.bind_some, Array.getD_eq_getD_getElem?] at hp
      have hs1 := hs 1 (by kernel_rfl)
      simp only [Array.getD_eq_getD_getElem?, List.getElem?_toArray, List.getElem?_cons_succ, List.getElem?_cons_zero, Option.getD_some] at hs1
      clear hs
      clear hbs
      clear hp
      have cx := k1 wx hf
      clear hf
      go_simp
      try dsimp only
      refine hK.out _ _ ?_ ?_
      · change Fr [] _ _
        ((repeat (first | (with_reducible exact Fr.refl _ _) | (with_reducible assumption) | (with_reducible refine Fr.drew ?_) | (with_reducible refine Fr.drewN ?_ _) | (with_reducible refine Fr.alloc ?_ _) | (with_reducible refine Fr.setL ?_ _ _ _ ?_) | (focus (refine Or.inl ?_; simp; done)) | (focus (refine Or.inr ?_; simp; done)) | (focus (refine Or.inr ?_; simp; omega)) | (focus (refine Or.inr ?_; omega)))); done)
      · simp only [nth]
        first | (unfold Is; rfl) | (unfold Any; exact trivial) | exact IsSl.new _ _ _ _ | assumption
    · intro ac wx hf hbs hs hp K hK
      simp only [waits, holdsA, nth, Is, Any, List.filter_cons, List.filter_nil, List.map_cons, List.map_nil, Region.binds, if_true, true_and, and_true, Nat.reduceAdd, List.getElem?_cons_zero, List.getElem?_cons_succ, Option.bind_some, Array.getD_eq_getD_getElem?] at hp
      have hs0 := hs 0 (by kernel_rfl)
      simp only [Array.getD_eq_getD_getElem?, List.getElem?_toArray, List.getElem?_cons_succ, List.getElem?_cons_zero, Option.getD_some] at hs0
      clear hs
      clear hbs
      clear hp
      have cx := k0 wx hf
      clear hf
      go_simp
      try dsimp only
      refine hK.out _ _ ?_ ?_
      · change Fr [] _ _
        ((repeat (first | (with_reducible exact Fr.refl _ _) | (with_reducible assumption) | (with_reducible refine Fr.drew ?_) | (with_reducible refine Fr.drewN ?_ _) | (with_reducible refine Fr.alloc ?_ _) | (with_reducible refine Fr.setL ?_ _ _ _ ?_) | (focus (refine Or.inl ?_; simp; done)) | (focus (refine Or.inr ?_; simp; done)) | (focus (refine Or.inr ?_; simp; omega)) | (focus (refine Or.inr ?_; omega)))); done)
      · simp only [nth]
        first | (unfold Is; rfl) | (unfold Any; exact trivial) | exact IsSl.new _ _ _ _ | assumption
    · intro ac wx hf hbs hs hp K hK
      simp only [waits, holdsA, nth, Is, Any, List.filter_cons, List.filter_nil, List.map_cons, List.map_nil, Region.binds, if_true, true_and, and_true, Nat.reduceAdd, List.getElem?_cons_zero, List.getElem?_cons_succ, Option.bind_some, Array.getD_eq_getD_getElem?] at hp
      clear hs
      clear hbs
      have h2 := hp
      clear hp
      clear hf
      (try simp only [h2])
      go_simp
      try dsimp only
      refine hK.out _ _ ?_ ?_
      · change Fr [] _ _
        ((repeat (first | (with_reducible exact Fr.refl _ _) | (with_reducible assumption) | (with_reducible refine Fr.drew ?_) | (with_reducible refine Fr.drewN ?_ _) | (with_reducible refine Fr.alloc ?_ _) | (with_reducible refine Fr.setL ?_ _ _ _ ?_) | (focus (refine Or.inl ?_; simp; done)) | (focus (refine Or.inr ?_; simp; done)) | (focus (refine Or.inr ?_; simp; omega)) | (focus (refine Or.inr ?_; omega)))); done)
      · simp only [nth]
        first | (unfold Is; rfl) | (unfold Any; exact trivial) | exact IsSl.new _ _ _ _ | assumption
    · intro ac wx hf hbs hs hp K hK
      simp only [waits, holdsA, nth, Is, Any, List.filter_cons, List.filter_nil, List.map_cons, List.map_nil, Region.binds, if_true, true_and, and_true, Nat.reduceAdd, List.getElem?_cons_zero, List.getElem?_cons_succ, Option.bind_some, Array.getD_eq_getD_getElem?] at hp
      clear hs
      clear hbs
      have h3 := hp
      clear hp
      clear hf
      (try simp only [h3])
      go_simp
      try dsimp only
      refine hK.out _ _ ?_ ?_
      · change Fr [] _ _
        ((repeat (first | (with_reducible exact Fr.refl _ _) | (with_reducible assumption) | (with_reducible refine Fr.drew ?_) | (with_reducible refine Fr.drewN ?_ _) | (with_reducible refine Fr.alloc ?_ _) | (with_reducible refine Fr.setL ?_ _ _ _ ?_) | (focus (refine Or.inl ?_; simp; done)) | (focus (refine Or.inr ?_; simp; done)) | (focus (refine Or.inr ?_; simp; omega)) | (focus (refine Or.inr ?_; omega)))); done)
      · simp only [nth]
        first | (unfold Is; rfl) | (unfold Any; exact trivial) | exact IsSl.new _ _ _ _ | assumption
    · intro ac wx hf hbs hs hp K hK
      simp only [waits, holdsA, nth, Is, Any, List.filter_cons, List.filter_nil, List.map_cons, List.map_nil, Region.binds, if_true, true_and, and_true, Nat.reduceAdd, List.getElem?_cons_zero, List.getElem?_cons_succ, Option.bind_some, Array.getD_eq_getD_getElem?] at hp
      clear hs
      clear hbs
      have h4 := hp
      clear hp
      have cx := k35 wx hf
      clear hf
      (try simp only [h4])
      go_simp
      try dsimp only
      refine hK.out _ _ ?_ ?_
      · change Fr [] _ _
        ((repeat (first | (with_reducible exact Fr.refl _ _) | (with_reducible assumption) | (with_reducible refine Fr.drew ?_) | (with_reducible refine Fr.drewN ?_ _) | (with_reducible refine Fr.alloc ?_ _) | (with_reducible refine Fr.setL ?_ _ _ _ ?_) | (focus (refine Or.inl ?_; simp; done)) | (focus (refine Or.inr ?_; simp; done)) | (focus (refine Or.inr ?_; simp; omega)) | (focus (refine Or.inr ?_; omega)))); done)
      · simp only [nth]
        first | (unfold Is; rfl) | (unfold Any; exact trivial) | exact IsSl.new _ _ _ _ | assumption
    · intro ac wx hf hbs hs hp K hK
      simp only [waits, holdsA, nth, Is, Any, List.filter_cons, List.filter_nil, List.map_cons, List.map_nil, Region.binds, if_true, true_and, and_true, Nat.reduceAdd, List.getElem?_cons_zero, List.getElem?_cons_succ, Option.bind_some, Array.getD_eq_getD_getElem?] at hp
      have hs0 := hs 0 (by kernel_rfl)
      simp only [Array.getD_eq_getD_getElem?, List.getElem?_toArray, List.getElem?_cons_succ, List.getElem?_cons_zero, Option.getD_some] at hs0
      clear hs
      clear hbs
      clear hp
      have cx := k0 wx hf
      clear hf
      go_simp
      try dsimp only
      refine hK.out _ _ ?_ ?_
      · change Fr [] _ _
        ((repeat (first | (with_reducible exact Fr.refl _ _) | (with_reducible assumption) | (with_reducible refine Fr.drew ?_) | (with_reducible refine Fr.drewN ?_ _) | (with_reducible refine Fr.alloc ?_ _) | (with_reducible refine Fr.setL ?_ _ _ _ ?_) | (focus (refine Or.inl ?_; simp; done)) | (focus (refine Or.inr ?_; simp; done)) | (focus (refine Or.inr ?_; simp; omega)) | (focus (refine Or.inr ?_; omega)))); done)
      · simp only [nth]
        first | (unfold Is; rfl) | (unfold Any; exact trivial) | exact IsSl.new _ _ _ _ | assumption
    · intro ac wx hf hbs hs hp K hK
      simp only [waits, holdsA, nth, Is, Any, List.filter_cons, List.filter_nil, List.map_cons, List.map_nil, Region.binds, if_true, true_and, and_true, Nat.reduceAdd, List.getElem?_cons_zero, List.getElem?_cons_succ, Option.bind_some, Array.getD_eq_getD_getElem?] at hp
      clear hs
      clear hbs
      have h6 := hp
      clear hp
      clear hf
      (try simp only [h6])
      go_simp
      try dsimp only
      refine hK.out _ _ ?_ ?_
      · change Fr [] _ _
        ((repeat (first | (with_reducible exact Fr.refl _ _) | (with_reducible assumption) | (with_reducible refine Fr.drew ?_) | (with_reducible refine Fr.drewN ?_ _) | (with_reducible refine Fr.alloc ?_ _) | (with_reducible refine Fr.setL ?_ _ _ _ ?_) | (focus (refine Or.inl ?_; simp; done)) | (focus (refine Or.inr ?_; simp; done)) | (focus (refine Or.inr ?_; simp; omega)) | (focus (refine Or.inr ?_; omega)))); done)
      · simp only [nth]
        first | (unfold Is; rfl) | (unfold Any; exact trivial) | exact IsSl.new _ _ _ _ | assumption
    · intro ac wx hf hbs hs hp K hK
      simp only [waits, holdsA, nth, Is, Any, List.filter_cons, List.filter_nil, List.map_cons, List.map_nil, Region.binds, if_true, true_and, and_true, Nat.reduceAdd, List.getElem?_cons_zero, List.getElem?_cons_succ, Option.bind_some, Array.getD_eq_getD_getElem?] at hp
      clear hs
      clear hbs
      have h7 := hp
      clear hp
      clear hf
      (try simp only [h7])
      go_simp
      try dsimp only
      refine hK.out _ _ ?_ ?_
      · change Fr [] _ _
        ((repeat (first | (with_reducible exact Fr.refl _ _) | (with_reducible assumption) | (with_reducible refine Fr.drew ?_) | (with_reducible refine Fr.drewN ?_ _) | (with_reducible refine Fr.alloc ?_ _) | (with_reducible refine Fr.setL ?_ _ _ _ ?_) | (focus (refine Or.inl ?_; simp; done)) | (focus (refine Or.inr ?_; simp; done)) | (focus (refine Or.inr ?_; simp; omega)) | (focus (refine Or.inr ?_; omega)))); done)
      · simp only [nth]
        first | (unfold Is; rfl) | (unfold Any; exact trivial) | exact IsSl.new _ _ _ _ | assumption
    · intro ac wx hf hbs hs hp K hK
      simp only [waits, holdsA, nth, Is, Any, List.filter_cons, List.filter_nil, List.map_cons, List.map_nil, Region.binds, if_true, true_and, and_true, Nat.reduceAdd, List.getElem?_cons_zero, List.getElem?_cons_succ, Option.bind_some, Array.getD_eq_getD_getElem?] at hp
      clear hs
      clear hbs
      have h8 := hp
      clear hp
      have cx := k36 wx hf
      clear hf
      (try simp only [h8])
      go_simp
      try dsimp only
      refine hK.out _ _ ?_ ?_
      · change Fr [] _ _
        ((repeat (first | (with_reducible exact Fr.refl _ _) | (with_reducible assumption) | (with_reducible refine Fr.drew ?_) | (with_reducible refine Fr.drewN ?_ _) | (with_reducible refine Fr.alloc ?_ _) | (with_reducible refine Fr.setL ?_ _ _ _ ?_) | (focus (refine Or.inl ?_; simp; done)) | (focus (refine Or.inr ?_; simp; done)) | (focus (refine Or.inr ?_; simp; omega)) | (focus (refine Or.inr ?_; omega)))); done)
      · simp only [nth]
        first | (unfold Is; rfl) | (unfold Any; exact trivial) | exact IsSl.new _ _ _ _ | assumption
    · intro ac wx hf hbs hs hp K hK
      simp only [waits, holdsA, nth, Is, Any, List.filter_cons, List.filter_nil, List.map_cons, List.map_nil, Region.binds, if_true, true_and, and_true, Nat.reduceAdd, List.getElem?_cons_zero, List.getElem?_cons_succ, Option.bind_some, Array.getD_eq_getD_getElem?] at hp
      clear hs
      have h9 := hp
      clear hp
      (try simp only [h9])
      go_simp
      go_at_call 189
      refine (fld_Number _ m.num ho0 ho1).mono ?_
      rintro e w' ⟨sb, rfl, hbs2, fz⟩
      refine hK.out _ _ ?_ ?_
      · change Fr [] _ _
        exact fz
      · simp only [nth]
        exact ⟨sb, rfl, hbs2⟩
    · intro ac wx hf hbs hs hp K hK
      simp only [waits, holdsA, nth, Is, Any, List.filter_cons, List.filter_nil, List.map_cons, List.map_nil, Region.binds, if_true, true_and, and_true, Nat.reduceAdd, List.getElem?_cons_zero, List.getElem?_cons_succ, Option.bind_some, Array.getD_eq_getD_getElem?] at hp
      clear hs
      clear hbs
      obtain ⟨h1, h5, h10⟩ := hp
      obtain ⟨sb, e10, hb10⟩ := h10
      clear hf
      (try simp only [h1, h5, e10])
      go_simp
      refine hK.out _ _ ?_ ?_
      · change Fr [] _ _
        exact Fr.refl _ _
      · simp only [nth]
        exact ⟨sb, rfl, hb10⟩
  case hD =>
    intro xv wx hf hp
    simp only [List.take_succ_cons, List.take_zero, List.drop_succ_cons, List.drop_zero, fill, List.setIfInBounds_toArray, List.set_cons_zero, List.set_cons_succ, Nat.reduceAdd, Act.put]
    rw [show live 12 (deadC [none, none, none, none, none, none, none, none, none, none, some 11, some 12]) = [0, 1, 2, 3, 4, 5, 6, 7, 8, 9, 11] from by decide] at hp
    simp only [holds, nth, Is, Any, true_and, and_true] at hp
    obtain ⟨p0, p1, p2, p3, p4, p5, p6, p7, p8, p9, p11⟩ := hp
    obtain ⟨sb, e11, hB⟩ := p11
    simp only [p0, e11]
    have hT2 := HT.out.fr0 hf
    have HS := Lib.hid (tie_send wx v m (rspD m kind) sb hT2 hB hs)
    have HF := Lib.hid hf
    clear hB hT2 hf p0 p1 p2 p3 p4 p5 p6 p7 p8 p9 e11 k0 k1 k35 k36
    go_wp2_with fail
    refine HS.out.mono ?_
    rintro e w2 ⟨rfl, ht⟩
    have HFIN := Lib.hid (TieTo.trans (HF.out.mono (by simp)) (fun x hx => .inl hx) rfl rfl ht)
    clear ht
    go_wp2
    go_end0
    exact ⟨rfl, HFIN.out⟩

set_option maxHeartbeats 2000000 in
theorem tie_status1 (w : World) (v : TV) (m : TM) (kind : Int) (f : Bool) (b0 b1 b2 : Nat) (h : IsTie w v m) (h0 : w.cell? ⟨b0, 0, none⟩ = some (.pointer (some ⟨v.t, 0, none⟩))) (h1 : w.cell? ⟨b1, 0, none⟩ = some (.int .i64 kind)) (h2 : w.cell? ⟨b2, 0, none⟩ = some (.bool f)) (hs : m.send.length ≤ 100000) :
    Calls Tryz.prog 210 #[.pointer (some ⟨b0, 0, none⟩), .pointer (some ⟨b1, 0, none⟩), .pointer (some ⟨b2, 0, none⟩)] w fun e w' => e = .returned (.tuple #[]) ∧ TieTo w w' v (sendM m (stsD m kind f)) := by
  have k0 : ∀ wx, Fr [] w wx → wx.cell? ⟨b0, 0, none⟩ = some (.pointer (some ⟨v.t, 0, none⟩)) := fun wx hf => hf.cell h0 (by simp)
  have k1 : ∀ wx, Fr [] w wx → wx.cell? ⟨b1, 0, none⟩ = some (.int .i64 kind) := fun wx hf => hf.cell h1 (by simp)
  have k2 : ∀ wx, Fr [] w wx → wx.cell? ⟨b2, 0, none⟩ = some (.bool f) := fun wx hf => hf.cell h2 (by simp)
  have HT := Lib.hid h
  clear h
  go_enter Tryz.func210, Tryz.ntmps210
  go_wp2
  refine wp_region_keepsC [] [false, false, false, false, false, false, false, false] [none, none, none, none, none, none, none, none] (fun _ => True) [Is (.pointer (some ⟨v.t, 0, none⟩)), Is (.int .i64 kind), Is (.pointer (some ⟨v.t, 0, none⟩)), Is (.pointer (some ⟨v.t, 0, none⟩)), Is (.pointer (some ⟨v.t, 10, none⟩)), Is (.int .i64 m.vr), Is (.bool f), Is (.agg ((stsD m kind f).arr Sl.nil))] 8 (by kernel_rfl) (by kernel_rfl) (by kernel_rfl) (by kernel_rfl) (by kernel_rfl) (by kernel_rfl) (by kernel_rfl) (by kernel_rfl) ?hV (fun _ _ _ h => h) trivial ?hS ?hD
  case hV =>
    repeat (first | exact trivial | exact Is.keepsN _ | exact Any.keepsN | exact CloneF.keeps | exact AggF.keeps | refine And.intro ?_ ?_)
  case hS =>
    (repeat' (first | exact trivial | refine And.intro ?_ ?_))
    · intro ac wx hf hbs hs hp K hK
      simp only [waits, holdsA, nth, Is, Any, List.filter_cons, List.filter_nil, List.map_cons, List.map_nil, Region.binds, if_true, true_and, and_true, Nat.reduceAdd, List.getElem?_cons_zero, List.getElem?_cons_succ, Option.bind_some, Array.getD_eq_getD_getElem?] at hp
      have hs0 := hs 0 (by kernel_rfl)
      simp only [Array.getD_eq_getD_getElem?, List.getElem?_toArray, List.getElem?_cons_succ, List.getElem?_cons_zero, Option.getD_some] at hs0
      clear hs
      clear hbs
      clear hp
      have cx := k0 wx hf
      clear hf
      go_simp
      try dsimp only
      refine hK.out _ _ ?_ ?_
      · change Fr [] _ _
        ((repeat (first | (with_reducible exact Fr.refl _ _) | (with_reducible assumption) | (with_reducible refine Fr.drew ?_) | (with_reducible refine Fr.drewN ?_ _) | (with_reducible refine Fr.alloc ?_ _) | (with_reducible refine Fr.setL ?_ _ _ _ ?_) | (focus (refine Or.inl ?_; simp; done)) | (focus (refine Or.inr ?_; simp; done)) | (focus (refine Or.inr ?_; simp; omega)) | (focus (refine Or.inr ?_; omega)))); done)
      · simp only [nth]
        first | (unfold Is; rfl) | (unfold Any; exact trivial) | exact IsSl.new _ _ _ _ | assumption
    · intro ac wx hf hbs hs hp K hK
      simp only [waits, holdsA, nth, Is, Any, List.filter_cons, List.filter_nil, List.map_cons, List.map_nil, Region.binds, if_true, true_and, and_true, Nat.reduceAdd, List.getElem?_cons_zero, List.getElem?_cons_succ, Option.bind_some, Array.getD_eq_getD_getElem?] at hp
      have hs1 := hs 1 (by kernel_rfl)
      simp only [Array.getD_eq_getD_getElem?, List.getElem?_toArray, List.getElem?_cons_succ, List.getElem?_cons_zero, Option.getD_some] at hs1
      clear hs
      clear hbs
      clear hp
      have cx := k1 wx hf
      clear hf
      go_simp
      try dsimp only
      refine hK.out _ _ ?_ ?_
      · change Fr [] _ _
        ((repeat (first | (with_reducible exact Fr.refl _ _) | (with_reducible assumption) | (with_reducible refine Fr.drew ?_) | (with_reducible refine Fr.drewN ?_ _) | (with_reducible refine Fr.alloc ?_ _) | (with_reducible refine Fr.setL ?_ _ _ _ ?_) | (focus (refine Or.inl ?_; simp; done)) | (focus (refine Or.inr ?_; simp; done)) | (focus (refine Or.inr ?_; simp; omega)) | (focus (refine Or.inr ?_; omega)))); done)
      · simp only [nth]
        first | (unfold Is; rfl) | (unfold Any; exact trivial) | exact IsSl.new _ _ _ _ | assumption
    · intro ac wx hf hbs hs hp K hK
      simp only [waits, holdsA, nth, Is, Any, List.filter_cons, List.filter_nil, List.map_cons, List.map_nil, Region.binds, if_true, true_and, and_true, Nat.reduceAdd, List.getElem?_cons_zero, List.getElem?_cons_succ, Option.bind_some, Array.getD_eq_getD_getElem?] at hp
      have hs0 := hs 0 (by kernel_rfl)
      simp only [Array.getD_eq_getD_getElem?, List.getElem?_toArray, List.getElem?_cons_succ, List.getElem?_cons_zero, Option.getD_some] at hs0
      clear hs
      clear hbs
      clear hp
      have cx := k0 wx hf
      clear hf
      go_simp
      try dsimp only
      refine hK.out _ _ ?_ ?_
      · change Fr [] _ _
        ((repeat (first | (with_reducible exact Fr.refl _ _) | (with_reducible assumption) | (with_reducible refine Fr.drew ?_) | (with_reducible refine Fr.drewN ?_ _) | (with_reducible refine Fr.alloc ?_ _) | (with_reducible refine Fr.setL ?_ _ _ _ ?_) | (focus (refine Or.inl ?_; simp; done)) | (focus (refine Or.inr ?_; simp; done)) | (focus (refine Or.inr ?_; simp; omega)) | (focus (refine Or.inr ?_; omega)))); done)
      · simp only [nth]
        first | (unfold Is; rfl) | (unfold Any; exact trivial) | exact IsSl.new _ _ _ _ | assumption
    · intro ac wx hf hbs hs hp K hK
      simp only [waits, holdsA, nth, Is, Any, List.filter_cons, List.filter_nil, List.map_cons, List.map_nil, Region.binds, if_true, true_and, and_true, Nat.reduceAdd, List.getElem?_cons_zero, List.getElem?_cons_succ, Option.bind_some, Array.getD_eq_getD_getElem?] at hp
      clear hs
      clear hbs
      have h2 := hp
      clear hp
      clear hf
      (try simp only [h2])
      go_simp
      try dsimp only
      refine hK.out _ _ ?_ ?_
      · change Fr [] _ _
        ((repeat (first | (with_reducible exact Fr.refl _ _) | (with_reducible assumption) | (with_reducible refine Fr.drew ?_) | (with_reducible refine Fr.drewN ?_ _) | (with_reducible refine Fr.alloc ?_ _) | (with_reducible refine Fr.setL ?_ _ _ _ ?_) | (focus (refine Or.inl ?_; simp; done)) | (focus (refine Or.inr ?_; simp; done)) | (focus (refine Or.inr ?_; simp; omega)) | (focus (refine Or.inr ?_; omega)))); done)
      · simp only [nth]
        first | (unfold Is; rfl) | (unfold Any; exact trivial) | exact IsSl.new _ _ _ _ | assumption
    · intro ac wx hf hbs hs hp K hK
      simp only [waits, holdsA, nth, Is, Any, List.filter_cons, List.filter_nil, List.map_cons, List.map_nil, Region.binds, if_true, true_and, and_true, Nat.reduceAdd, List.getElem?_cons_zero, List.getElem?_cons_succ, Option.bind_some, Array.getD_eq_getD_getElem?] at hp
      clear hs
      clear hbs
      have h3 := hp
      clear hp
      clear hf
      (try simp only [h3])
      go_simp
      try dsimp only
      refine hK.out _ _ ?_ ?_
      · change Fr [] _ _
        ((repeat (first | (with_reducible exact Fr.refl _ _) | (with_reducible assumption) | (with_reducible refine Fr.drew ?_) | (with_reducible refine Fr.drewN ?_ _) | (with_reducible refine Fr.alloc ?_ _) | (with_reducible refine Fr.setL ?_ _ _ _ ?_) | (focus (refine Or.inl ?_; simp; done)) | (focus (refine Or.inr ?_; simp; done)) | (focus (refine Or.inr ?_; simp; omega)) | (focus (refine Or.inr ?_; omega)))); done)
      · simp only [nth]
        first | (unfold Is; rfl) | (unfold Any; exact trivial) | exact IsSl.new _ _ _ _ | assumption
    · intro ac wx hf hbs hs hp K hK
      simp only [waits, holdsA, nth, Is, Any, List.filter_cons, List.filter_nil, List.map_cons, List.map_nil, Region.binds, if_true, true_and, and_true, Nat.reduceAdd, List.getElem?_cons_zero, List.getElem?_cons_succ, Option.bind_some, Array.getD_eq_getD_getElem?] at hp
      clear hs
      clear hbs
      have h4 := hp
      clear hp
      have hv3 := (HT.out.fr0 hf).v3
      clear hf
      (try simp only [h4])
      go_simp
      go_at_call 60
      refine (vars_Vr v.t (m.cells v) m.vs m.vr m.va wx hv3).mono ?_
      rintro e w' ⟨rfl, fz⟩
      exact hK.out _ _ fz rfl
    · intro ac wx hf hbs hs hp K hK
      simp only [waits, holdsA, nth, Is, Any, List.filter_cons, List.filter_nil, List.map_cons, List.map_nil, Region.binds, if_true, true_and, and_true, Nat.reduceAdd, List.getElem?_cons_zero, List.getElem?_cons_succ, Option.bind_some, Array.getD_eq_getD_getElem?] at hp
      have hs2 := hs 2 (by kernel_rfl)
      simp only [Array.getD_eq_getD_getElem?, List.getElem?_toArray, List.getElem?_cons_succ, List.getElem?_cons_zero, Option.getD_some] at hs2
      clear hs
      clear hbs
      clear hp
      have cx := k2 wx hf
      clear hf
      go_simp
      try dsimp only
      refine hK.out _ _ ?_ ?_
      · change Fr [] _ _
        ((repeat (first | (with_reducible exact Fr.refl _ _) | (with_reducible assumption) | (with_reducible refine Fr.drew ?_) | (with_reducible refine Fr.drewN ?_ _) | (with_reducible refine Fr.alloc ?_ _) | (with_reducible refine Fr.setL ?_ _ _ _ ?_) | (focus (refine Or.inl ?_; simp; done)) | (focus (refine Or.inr ?_; simp; done)) | (focus (refine Or.inr ?_; simp; omega)) | (focus (refine Or.inr ?_; omega)))); done)
      · simp only [nth]
        first | (unfold Is; rfl) | (unfold Any; exact trivial) | exact IsSl.new _ _ _ _ | assumption
    · intro ac wx hf hbs hs hp K hK
      simp only [waits, holdsA, nth, Is, Any, List.filter_cons, List.filter_nil, List.map_cons, List.map_nil, Region.binds, if_true, true_and, and_true, Nat.reduceAdd, List.getElem?_cons_zero, List.getElem?_cons_succ, Option.bind_some, Array.getD_eq_getD_getElem?] at hp
      clear hs
      clear hbs
      obtain ⟨h1, h5, h6⟩ := hp
      clear hf
      (try simp only [h1, h5, h6])
      go_simp
      try dsimp only
      refine hK.out _ _ ?_ ?_
      · change Fr [] _ _
        ((repeat (first | (with_reducible exact Fr.refl _ _) | (with_reducible assumption) | (with_reducible refine Fr.drew ?_) | (with_reducible refine Fr.drewN ?_ _) | (with_reducible refine Fr.alloc ?_ _) | (with_reducible refine Fr.setL ?_ _ _ _ ?_) | (focus (refine Or.inl ?_; simp; done)) | (focus (refine Or.inr ?_; simp; done)) | (focus (refine Or.inr ?_; simp; omega)) | (focus (refine Or.inr ?_; omega)))); done)
      · simp only [nth]
        first | (unfold Is; rfl) | (unfold Any; exact trivial) | exact IsSl.new _ _ _ _ | assumption
  case hD =>
    intro xv wx hf hp
    simp only [List.take_succ_cons, List.take_zero, List.drop_succ_cons, List.drop_zero, fill, List.setIfInBounds_toArray, List.set_cons_zero, List.set_cons_succ, Nat.reduceAdd, Act.put]
    rw [show live 8 (deadC [none, none, none, none, none, none, none, none]) = [0, 1, 2, 3, 4, 5, 6, 7] from by decide] at hp
    simp only [holds, nth, Is, Any, true_and, and_true] at hp
    obtain ⟨p0, p1, p2, p3, p4, p5, p6, p7⟩ := hp
    simp only [p0, p7]
    have hB : Bts 0 wx Sl.nil (stsD m kind f).info := Bts.nil _ _
    have hT2 := HT.out.fr0 hf
    have HS := Lib.hid (tie_send wx v m (stsD m kind f) Sl.nil hT2 hB hs)
    have HF := Lib.hid hf
    clear hB hT2 hf p0 p1 p2 p3 p4 p5 p6 p7 k0 k1 k2
    go_wp2_with fail
    refine HS.out.mono ?_
    rintro e w2 ⟨rfl, ht⟩
    have HFIN := Lib.hid (TieTo.trans (HF.out.mono (by simp)) (fun x hx => .inl hx) rfl rfl ht)
    clear ht
    go_wp2
    go_end0
    exact ⟨rfl, HFIN.out⟩

set_option maxHeartbeats 2000000 in
theorem tie_ask1 (w : World) (v : TV) (m : TM) (kind : Int) (b0 b1 : Nat) (h : IsTie w v m) (h0 : w.cell? ⟨b0, 0, none⟩ = some (.pointer (some ⟨v.t, 0, none⟩))) (h1 : w.cell? ⟨b1, 0, none⟩ = some (.int .i64 kind)) (hb0 : b0 ∉ v.foot) (hl : m.tm.length ≤ 1000) (hs : m.send.length ≤ 100000) :
    Calls Tryz.prog 211 #[.pointer (some ⟨b0, 0, none⟩), .pointer (some ⟨b1, 0, none⟩)] w fun e w' => e = .returned (.tuple #[]) ∧ TieTo w w' v (askM m kind) := by
  have k0 : ∀ wx, Fr [] w wx → wx.cell? ⟨b0, 0, none⟩ = some (.pointer (some ⟨v.t, 0, none⟩)) := fun wx hf => hf.cell h0 (by simp)
  have k1 : ∀ wx, Fr [] w wx → wx.cell? ⟨b1, 0, none⟩ = some (.int .i64 kind) := fun wx hf => hf.cell h1 (by simp)
  have HT := Lib.hid h
  clear h
  go_enter Tryz.func211, Tryz.ntmps211
  go_wp2
  refine wp_region_keepsC [] [false, false, false, false, false, false, false] [none, none, none, none, none, none, none] (fun _ => True) [Is (.pointer (some ⟨v.t, 0, none⟩)), Is (.int .i64 kind), Is (.pointer (some ⟨v.t, 0, none⟩)), Is (.pointer (some ⟨v.t, 0, none⟩)), Is (.pointer (some ⟨v.t, 10, none⟩)), Is (.int .i64 m.vr), Is (.agg ((askD m kind).arr Sl.nil))] 7 (by kernel_rfl) (by kernel_rfl) (by kernel_rfl) (by kernel_rfl) (by kernel_rfl) (by kernel_rfl) (by kernel_rfl) (by kernel_rfl) ?hV (fun _ _ _ h => h) trivial ?hS ?hD
  case hV =>
    repeat (first | exact trivial | exact Is.keepsN _ | exact Any.keepsN | exact CloneF.keeps | exact AggF.keeps | refine And.intro ?_ ?_)
  case hS =>
    (repeat' (first | exact trivial | refine And.intro ?_ ?_))
    · intro ac wx hf hbs hs hp K hK
      simp only [waits, holdsA, nth, Is, Any, List.filter_cons, List.filter_nil, List.map_cons, List.map_nil, Region.binds, if_true, true_and, and_true, Nat.reduceAdd, List.getElem?_cons_zero, List.getElem?_cons_succ, Option.bind_some, Array.getD_eq_getD_getElem?] at hp
      have hs0 := hs 0 (by kernel_rfl)
      simp only [Array.getD_eq_getD_getElem?, List.getElem?_toArray, List.getElem?_cons_succ, List.getElem?_cons_zero, Option.getD_some] at hs0
      clear hs
      clear hbs
      clear hp
      have cx := k0 wx hf
      clear hf
      go_simp
      try dsimp only
      refine hK.out _ _ ?_ ?_
      · change Fr [] _ _
        ((repeat (first | (with_reducible exact Fr.refl _ _) | (with_reducible assumption) | (with_reducible refine Fr.drew ?_) | (with_reducible refine Fr.drewN ?_ _) | (with_reducible refine Fr.alloc ?_ _) | (with_reducible refine Fr.setL ?_ _ _ _ ?_) | (focus (refine Or.inl ?_; simp; done)) | (focus (refine Or.inr ?_; simp; done)) | (focus (refine Or.inr ?_; simp; omega)) | (focus (refine Or.inr ?_; omega)))); done)
      · simp only [nth]
        first | (unfold Is; rfl) | (unfold Any; exact trivial) | exact IsSl.new _ _ _ _ | assumption
    · intro ac wx hf hbs hs hp K hK
      simp only [waits, holdsA, nth, Is, Any, List.filter_cons, List.filter_nil, List.map_cons, List.map_nil, Region.binds, if_true, true_and, and_true, Nat.reduceAdd, List.getElem?_cons_zero, List.getElem?_cons_succ, Option.bind_some, Array.getD_eq_getD_getElem?] at hp
      have hs1 := hs 1 (by kernel_rfl)
      simp only [Array.getD_eq_getD_getElem?, List.getElem?_toArray, List.getElem?_cons_succ, List.getElem?_cons_zero, Option.getD_some] at hs1
      clear hs
      clear hbs
      clear hp
      have cx := k1 wx hf
      clear hf
      go_simp
      try dsimp only
      refine hK.out _ _ ?_ ?_
      · change Fr [] _ _
        ((repeat (first | (with_reducible exact Fr.refl _ _) | (with_reducible assumption) | (with_reducible refine Fr.drew ?_) | (with_reducible refine Fr.drewN ?_ _) | (with_reducible refine Fr.alloc ?_ _) | (with_reducible refine Fr.setL ?_ _ _ _ ?_) | (focus (refine Or.inl ?_; simp; done)) | (focus (refine Or.inr ?_; simp; done)) | (focus (refine Or.inr ?_; simp; omega)) | (focus (refine Or.inr ?_; omega)))); done)
      · simp only [nth]
        first | (unfold Is; rfl) | (unfold Any; exact trivial) | exact IsSl.new _ _ _ _ | assumption
    · intro ac wx hf hbs hs hp K hK
      simp only [waits, holdsA, nth, Is, Any, List.filter_cons, List.filter_nil, List.map_cons, List.map_nil, Region.binds, if_true, true_and, and_true, Nat.reduceAdd, List.getElem?_cons_zero, List.getElem?_cons_succ, Option.bind_some, Array.getD_eq_getD_getElem?] at hp
      have hs0 := hs 0 (by kernel_rfl)
      simp only [Array.getD_eq_getD_getElem?, List.getElem?_toArray, List.getElem?_cons_succ, List.getElem?_cons_zero, Option.getD_some] at hs0
      clear hs
      clear hbs
      clear hp
      have cx := k0 wx hf
      clear hf
      go_simp
      try dsimp only
      refine hK.out _ _ ?_ ?_
      · change Fr [] _ _
        ((repeat (first | (with_reducible exact Fr.refl _ _) | (with_reducible assumption) | (with_reducible refine Fr.drew ?_) | (with_reducible refine Fr.drewN ?_ _) | (with_reducible refine Fr.alloc ?_ _) | (with_reducible refine Fr.setL ?_ _ _ _ ?_) | (focus (refine Or.inl ?_; simp; done)) | (focus (refine Or.inr ?_; simp; done)) | (focus (refine Or.inr ?_; simp; omega)) | (focus (refine Or.inr ?_; omega)))); done)
      · simp only [nth]
        first | (unfold Is; rfl) | (unfold Any; exact trivial) | exact IsSl.new _ _ _ _ | assumption
    · intro ac wx hf hbs hs hp K hK
      simp only [waits, holdsA, nth, Is, Any, List.filter_cons, List.filter_nil, List.map_cons, List.map_nil, Region.binds, if_true, true_and, and_true, Nat.reduceAdd, List.getElem?_cons_zero, List.getElem?_cons_succ, Option.bind_some, Array.getD_eq_getD_getElem?] at hp
      clear hs
      clear hbs
      have h2 := hp
      clear hp
      clear hf
      (try simp only [h2])
      go_simp
      try dsimp only
      refine hK.out _ _ ?_ ?_
      · change Fr [] _ _
        ((repeat (first | (with_reducible exact Fr.refl _ _) | (with_reducible assumption) | (with_reducible refine Fr.drew ?_) | (with_reducible refine Fr.drewN ?_ _) | (with_reducible refine Fr.alloc ?_ _) | (with_reducible refine Fr.setL ?_ _ _ _ ?_) | (focus (refine Or.inl ?_; simp; done)) | (focus (refine Or.inr ?_; simp; done)) | (focus (refine Or.inr ?_; simp; omega)) | (focus (refine Or.inr ?_; omega)))); done)
      · simp only [nth]
        first | (unfold Is; rfl) | (unfold Any; exact trivial) | exact IsSl.new _ _ _ _ | assumption
    · intro ac wx hf hbs hs hp K hK
      simp only [waits, holdsA, nth, Is, Any, List.filter_cons, List.filter_nil, List.map_cons, List.map_nil, Region.binds, if_true, true_and, and_true, Nat.reduceAdd, List.getElem?_cons_zero, List.getElem?_cons_succ, Option.bind_some, Array.getD_eq_getD_getElem?] at hp
      clear hs
      clear hbs
      have h3 := hp
      clear hp
      clear hf
      (try simp only [h3])
      go_simp
      try dsimp only
      refine hK.out _ _ ?_ ?_
      · change Fr [] _ _
        ((repeat (first | (with_reducible exact Fr.refl _ _) | (with_reducible assumption) | (with_reducible refine Fr.drew ?_) | (with_reducible refine Fr.drewN ?_ _) | (with_reducible refine Fr.alloc ?_ _) | (with_reducible refine Fr.setL ?_ _ _ _ ?_) | (focus (refine Or.inl ?_; simp; done)) | (focus (refine Or.inr ?_; simp; done)) | (focus (refine Or.inr ?_; simp; omega)) | (focus (refine Or.inr ?_; omega)))); done)
      · simp only [nth]
        first | (unfold Is; rfl) | (unfold Any; exact trivial) | exact IsSl.new _ _ _ _ | assumption
    · intro ac wx hf hbs hs hp K hK
      simp only [waits, holdsA, nth, Is, Any, List.filter_cons, List.filter_nil, List.map_cons, List.map_nil, Region.binds, if_true, true_and, and_true, Nat.reduceAdd, List.getElem?_cons_zero, List.getElem?_cons_succ, Option.bind_some, Array.getD_eq_getD_getElem?] at hp
      clear hs
      clear hbs
      have h4 := hp
      clear hp
      have hv3 := (HT.out.fr0 hf).v3
      clear hf
      (try simp only [h4])
      go_simp
      go_at_call 60
      refine (vars_Vr v.t (m.cells v) m.vs m.vr m.va wx hv3).mono ?_
      rintro e w' ⟨rfl, fz⟩
      exact hK.out _ _ fz rfl
    · intro ac wx hf hbs hs hp K hK
      simp only [waits, holdsA, nth, Is, Any, List.filter_cons, List.filter_nil, List.map_cons, List.map_nil, Region.binds, if_true, true_and, and_true, Nat.reduceAdd, List.getElem?_cons_zero, List.getElem?_cons_succ, Option.bind_some, Array.getD_eq_getD_getElem?] at hp
      clear hs
      clear hbs
      obtain ⟨h1, h5⟩ := hp
      clear hf
      (try simp only [h1, h5])
      go_simp
      try dsimp only
      refine hK.out _ _ ?_ ?_
      · change Fr [] _ _
        ((repeat (first | (with_reducible exact Fr.refl _ _) | (with_reducible assumption) | (with_reducible refine Fr.drew ?_) | (with_reducible refine Fr.drewN ?_ _) | (with_reducible refine Fr.alloc ?_ _) | (with_reducible refine Fr.setL ?_ _ _ _ ?_) | (focus (refine Or.inl ?_; simp; done)) | (focus (refine Or.inr ?_; simp; done)) | (focus (refine Or.inr ?_; simp; omega)) | (focus (refine Or.inr ?_; omega)))); done)
      · simp only [nth]
        first | (unfold Is; rfl) | (unfold Any; exact trivial) | exact IsSl.new _ _ _ _ | assumption
  case hD =>
    intro xv wx hf hp
    simp only [List.take_succ_cons, List.take_zero, List.drop_succ_cons, List.drop_zero, fill, List.setIfInBounds_toArray, List.set_cons_zero, List.set_cons_succ, Nat.reduceAdd, Act.put]
    rw [show live 7 (deadC [none, none, none, none, none, none, none]) = [0, 1, 2, 3, 4, 5, 6] from by decide] at hp
    simp only [holds, nth, Is, Any, true_and, and_true] at hp
    obtain ⟨p0, p1, p2, p3, p4, p5, p6⟩ := hp
    simp only [p0, p6]
    have hB : Bts 0 wx Sl.nil (askD m kind).info := Bts.nil _ _
    have hT2 := HT.out.fr0 hf
    have HS := Lib.hid (tie_send wx v m (askD m kind) Sl.nil hT2 hB hs)
    have HF := Lib.hid hf
    clear hB hT2 hf p0 p1 p2 p3 p4 p5 p6 k0 k1
    go_wp2_with fail
    refine HS.out.mono ?_
    rintro e w2 ⟨rfl, ht⟩
    obtain ⟨v2, h2, et, ep, f2, n2⟩ := TieTo.trans (HF.out.mono (by simp)) (fun x hx => .inl hx) rfl rfl ht
    have hc0 := f2.cell h0 hb0
    have c15 := h2.c15
    rw [et] at c15
    have H2 := Lib.hid h2
    have HQ := Lib.hid (And.intro f2 (And.intro n2 (And.intro et ep)))
    clear ht h2 f2 n2 et ep
    go_wp2_with fail
    refine (clk_Stop w2 v2.c v2.cl 4 v2.now m.tm 29 H2.out.clk hl).mono ?_
    rintro e w3 ⟨rfl, hc⟩
    have HFIN := Lib.hid (TieTo.trans HQ.out.1 HQ.out.2.1 HQ.out.2.2.1 HQ.out.2.2.2 (H2.out.setClk hc))
    clear hc c15 hc0
    go_wp2
    go_end0
    exact ⟨rfl, HFIN.out⟩

end Go.Proofs.YtneggoonlmmjeaaGreat
namespace Go.Proofs.YtneggoonlmmjeaaGreat
open Go.RowKit Go.Shelf
set_option linter.unusedVariables false
set_option linter.unusedSimpArgs false
set_option maxRecDepth 100000

theorem mk_command (w : World) (t : Nat) (kind : Int) :
    Calls Tryz.prog 146 #[.pointer (some ⟨t, 0, none⟩), .int .i64 kind] w fun e w' => e = .returned (.func (.func 187) #[] #[.pointer (some ⟨w.heap.size, 0, none⟩), .pointer (some ⟨w.heap.size + 1, 0, none⟩)]) ∧ w' = (w.alloc (.cells #[.pointer (some ⟨t, 0, none⟩)] 26)).alloc (.cells #[.int .i64 kind] 3) := by
  go_enter Tryz.func146, Tryz.ntmps146
  go_wp2
  go_ret
  exact ⟨rfl, rfl⟩

theorem mk_response (w : World) (t : Nat) (kind : Int) :
    Calls Tryz.prog 147 #[.pointer (some ⟨t, 0, none⟩), .int .i64 kind] w fun e w' => e = .returned (.func (.func 190) #[] #[.pointer (some ⟨w.heap.size, 0, none⟩), .pointer (some ⟨w.heap.size + 1, 0, none⟩)]) ∧ w' = (w.alloc (.cells #[.pointer (some ⟨t, 0, none⟩)] 26)).alloc (.cells #[.int .i64 kind] 3) := by
  go_enter Tryz.func147, Tryz.ntmps147
  go_wp2
  go_ret
  exact ⟨rfl, rfl⟩

theorem mk_say (w : World) (t : Nat) (kind : Int) :
    Calls Tryz.prog 149 #[.pointer (some ⟨t, 0, none⟩), .int .i64 kind] w fun e w' => e = .returned (.func (.func 193) #[] #[.pointer (some ⟨w.heap.size, 0, none⟩), .pointer (some ⟨w.heap.size + 1, 0, none⟩)]) ∧ w' = (w.alloc (.cells #[.pointer (some ⟨t, 0, none⟩)] 26)).alloc (.cells #[.int .i64 kind] 3) := by
  go_enter Tryz.func149, Tryz.ntmps149
  go_wp2
  go_ret
  exact ⟨rfl, rfl⟩

theorem mk_stop (w : World) (t : Nat) (kind : Int) :
    Calls Tryz.prog 153 #[.pointer (some ⟨t, 0, none⟩), .int .i64 kind] w fun e w' => e = .returned (.func (.func 201) #[] #[.pointer (some ⟨w.heap.size, 0, none⟩), .pointer (some ⟨w.heap.size + 1, 0, none⟩)]) ∧ w' = (w.alloc (.cells #[.pointer (some ⟨t, 0, none⟩)] 26)).alloc (.cells #[.int .i64 kind] 3) := by
  go_enter Tryz.func153, Tryz.ntmps153
  go_wp2
  go_ret
  exact ⟨rfl, rfl⟩

theorem mk_ask (w : World) (t : Nat) (kind : Int) :
    Calls Tryz.prog 159 #[.pointer (some ⟨t, 0, none⟩), .int .i64 kind] w fun e w' => e = .returned (.func (.func 211) #[] #[.pointer (some ⟨w.heap.size, 0, none⟩), .pointer (some ⟨w.heap.size + 1, 0, none⟩)]) ∧ w' = (w.alloc (.cells #[.pointer (some ⟨t, 0, none⟩)] 26)).alloc (.cells #[.int .i64 kind] 3) := by
  go_enter Tryz.func159, Tryz.ntmps159
  go_wp2
  go_ret
  exact ⟨rfl, rfl⟩

theorem mk_peer (w : World) (t : Nat) (f : Bool) :
    Calls Tryz.prog 156 #[.pointer (some ⟨t, 0, none⟩), .bool f] w fun e w' => e = .returned (.func (.func 207) #[] #[.pointer (some ⟨w.heap.size + 1, 0, none⟩), .pointer (some ⟨w.heap.size, 0, none⟩)]) ∧ w' = (w.alloc (.cells #[.pointer (some ⟨t, 0, none⟩)] 26)).alloc (.cells #[.bool f] 4) := by
  go_enter Tryz.func156, Tryz.ntmps156
  go_wp2
  go_ret
  exact ⟨rfl, rfl⟩

theorem mk_status (w : World) (t : Nat) (kind : Int) (f : Bool) :
    Calls Tryz.prog 158 #[.pointer (some ⟨t, 0, none⟩), .int .i64 kind, .bool f] w fun e w' => e = .returned (.func (.func 210) #[] #[.pointer (some ⟨w.heap.size, 0, none⟩), .pointer (some ⟨w.heap.size + 1, 0, none⟩), .pointer (some ⟨w.heap.size + 2, 0, none⟩)]) ∧ w' = ((w.alloc (.cells #[.pointer (some ⟨t, 0, none⟩)] 26)).alloc (.cells #[.int .i64 kind] 3)).alloc (.cells #[.bool f] 4) := by
  go_enter Tryz.func158, Tryz.ntmps158
  go_wp2
  go_ret
  exact ⟨rfl, rfl⟩

/-- A timer stops. -/
def stopM (m : TM) (k : Int) : TM := { m with tm := tstop m.tm k }
theorem tie_stop1 (w : World) (v : TV) (m : TM) (k : Int) (b0 b1 : Nat) (h : IsTie w v m) (h0 : w.cell? ⟨b0, 0, none⟩ = some (.pointer (some ⟨v.t, 0, none⟩))) (h1 : w.cell? ⟨b1, 0, none⟩ = some (.int .i64 k)) (hl : m.tm.length ≤ 1000) :
    Calls Tryz.prog 201 #[.pointer (some ⟨b0, 0, none⟩), .pointer (some ⟨b1, 0, none⟩)] w fun e w' => e = .returned (.tuple #[]) ∧ TieTo w w' v (stopM m k) := by
  have c15 := h.c15
  have H := Lib.hid h
  have k0 : ∀ wx, Fr [] w wx → wx.cell? ⟨b0, 0, none⟩ = some (.pointer (some ⟨v.t, 0, none⟩)) := fun wx hf => hf.cell h0 (by simp)
  have k1 : ∀ wx, Fr [] w wx → wx.cell? ⟨b1, 0, none⟩ = some (.int .i64 k) := fun wx hf => hf.cell h1 (by simp)
  have k15 : ∀ wx, Fr [] w wx → wx.cell? ⟨v.t, 15, none⟩ = some (.pointer (some ⟨v.c, 0, none⟩)) := fun wx hf => hf.cell c15 (by simp)
  clear h
  go_enter Tryz.func201, Tryz.ntmps201
  go_wp2
  refine wp_region_keepsC [] [false, false, false, false, false] [none, none, none, none, none] (fun _ => True) [Is (.pointer (some ⟨v.t, 0, none⟩)), Is (.pointer (some ⟨v.t, 0, none⟩)), Is (.pointer (some ⟨v.t, 15, none⟩)), Is (.pointer (some ⟨v.c, 0, none⟩)), Is (.int .i64 k)] 5 (by kernel_rfl) (by kernel_rfl) (by kernel_rfl) (by kernel_rfl) (by kernel_rfl) (by kernel_rfl) (by kernel_rfl) (by kernel_rfl) ?hV (fun _ _ _ h => h) trivial ?hS ?hD
  case hV =>
    repeat (first | exact trivial | exact Is.keepsN _ | exact Any.keepsN | refine And.intro ?_ ?_)
  case hS =>
    (repeat' (first | exact trivial | refine And.intro ?_ ?_))
    · intro ac wx hf hbs hs hp K hK
      simp only [waits, holdsA, nth, Is, Any, List.filter_cons, List.filter_nil, List.map_cons, List.map_nil, Region.binds, if_true, true_and, and_true, Nat.reduceAdd, List.getElem?_cons_zero, List.getElem?_cons_succ, Option.bind_some, Array.getD_eq_getD_getElem?] at hp
      have hs0 := hs 0 (by kernel_rfl)
      simp only [Array.getD_eq_getD_getElem?, List.getElem?_toArray, List.getElem?_cons_succ, List.getElem?_cons_zero, Option.getD_some] at hs0
      clear hs
      clear hbs
      clear hp
      have cx := k0 wx hf
      clear hf
      go_simp
      try dsimp only
      refine hK.out _ _ ?_ ?_
      · change Fr [] _ _
        ((repeat (first | (with_reducible exact Fr.refl _ _) | (with_reducible assumption) | (with_reducible refine Fr.drew ?_) | (with_reducible refine Fr.drewN ?_ _) | (with_reducible refine Fr.alloc ?_ _) | (with_reducible refine Fr.setL ?_ _ _ _ ?_) | (focus (refine Or.inl ?_; simp; done)) | (focus (refine Or.inr ?_; simp; done)) | (focus (refine Or.inr ?_; simp; omega)) | (focus (refine Or.inr ?_; omega)))); done)
      · simp only [nth]
        first | (unfold Is; rfl) | (unfold Any; exact trivial) | exact IsSl.new _ _ _ _ | assumption
    · intro ac wx hf hbs hs hp K hK
      simp only [waits, holdsA, nth, Is, Any, List.filter_cons, List.filter_nil, List.map_cons, List.map_nil, Region.binds, if_true, true_and, and_true, Nat.reduceAdd, List.getElem?_cons_zero, List.getElem?_cons_succ, Option.bind_some, Array.getD_eq_getD_getElem?] at hp
      clear hs
      clear hbs
      have h0 := hp
      clear hp
      clear hf
      (try simp only [h0])
      go_simp
      try dsimp only
      refine hK.out _ _ ?_ ?_
      · change Fr [] _ _
        ((repeat (first | (with_reducible exact Fr.refl _ _) | (with_reducible assumption) | (with_reducible refine Fr.drew ?_) | (with_reducible refine Fr.drewN ?_ _) | (with_reducible refine Fr.alloc ?_ _) | (with_reducible refine Fr.setL ?_ _ _ _ ?_) | (focus (refine Or.inl ?_; simp; done)) | (focus (refine Or.inr ?_; simp; done)) | (focus (refine Or.inr ?_; simp; omega)) | (focus (refine Or.inr ?_; omega)))); done)
      · simp only [nth]
        first | (unfold Is; rfl) | (unfold Any; exact trivial) | exact IsSl.new _ _ _ _ | assumption
    · intro ac wx hf hbs hs hp K hK
      simp only [waits, holdsA, nth, Is, Any, List.filter_cons, List.filter_nil, List.map_cons, List.map_nil, Region.binds, if_true, true_and, and_true, Nat.reduceAdd, List.getElem?_cons_zero, List.getElem?_cons_succ, Option.bind_some, Array.getD_eq_getD_getElem?] at hp
      clear hs
      clear hbs
      have h1 := hp
      clear hp
      clear hf
      (try simp only [h1])
      go_simp
      try dsimp only
      refine hK.out _ _ ?_ ?_
      · change Fr [] _ _
        ((repeat (first | (with_reducible exact Fr.refl _ _) | (with_reducible assumption) | (with_reducible refine Fr.drew ?_) | (with_reducible refine Fr.drewN ?_ _) | (with_reducible refine Fr.alloc ?_ _) | (with_reducible refine Fr.setL ?_ _ _ _ ?_) | (focus (refine Or.inl ?_; simp; done)) | (focus (refine Or.inr ?_; simp; done)) | (focus (refine Or.inr ?_; simp; omega)) | (focus (refine Or.inr ?_; omega)))); done)
      · simp only [nth]
        first | (unfold Is; rfl) | (unfold Any; exact trivial) | exact IsSl.new _ _ _ _ | assumption
    · intro ac wx hf hbs hs hp K hK
      simp only [waits, holdsA, nth, Is, Any, List.filter_cons, List.filter_nil, List.map_cons, List.map_nil, Region.binds, if_true, true_and, and_true, Nat.reduceAdd, List.getElem?_cons_zero, List.getElem?_cons_succ, Option.bind_some, Array.getD_eq_getD_getElem?] at hp
      clear hs
      clear hbs
      have h2 := hp
      clear hp
      have cx := k15 wx hf
      clear hf
      (try simp only [h2])
      go_simp
      try dsimp only
      refine hK.out _ _ ?_ ?_
      · change Fr [] _ _
        ((repeat (first | (with_reducible exact Fr.refl _ _) | (with_reducible assumption) | (with_reducible refine Fr.drew ?_) | (with_reducible refine Fr.drewN ?_ _) | (with_reducible refine Fr.alloc ?_ _) | (with_reducible refine Fr.setL ?_ _ _ _ ?_) | (focus (refine Or.inl ?_; simp; done)) | (focus (refine Or.inr ?_; simp; done)) | (focus (refine Or.inr ?_; simp; omega)) | (focus (refine Or.inr ?_; omega)))); done)
      · simp only [nth]
        first | (unfold Is; rfl) | (unfold Any; exact trivial) | exact IsSl.new _ _ _ _ | assumption
    · intro ac wx hf hbs hs hp K hK
      simp only [waits, holdsA, nth, Is, Any, List.filter_cons, List.filter_nil, List.map_cons, List.map_nil, Region.binds, if_true, true_and, and_true, Nat.reduceAdd, List.getElem?_cons_zero, List.getElem?_cons_succ, Option.bind_some, Array.getD_eq_getD_getElem?] at hp
      have hs1 := hs 1 (by kernel_rfl)
      simp only [Array.getD_eq_getD_getElem?, List.getElem?_toArray, List.getElem?_cons_succ, List.getElem?_cons_zero, Option.getD_some] at hs1
      clear hs
      clear hbs
      clear hp
      have cx := k1 wx hf
      clear hf
      go_simp
      try dsimp only
      refine hK.out _ _ ?_ ?_
      · change Fr [] _ _
        ((repeat (first | (with_reducible exact Fr.refl _ _) | (with_reducible assumption) | (with_reducible refine Fr.drew ?_) | (with_reducible refine Fr.drewN ?_ _) | (with_reducible refine Fr.alloc ?_ _) | (with_reducible refine Fr.setL ?_ _ _ _ ?_) | (focus (refine Or.inl ?_; simp; done)) | (focus (refine Or.inr ?_; simp; done)) | (focus (refine Or.inr ?_; simp; omega)) | (focus (refine Or.inr ?_; omega)))); done)
      · simp only [nth]
        first | (unfold Is; rfl) | (unfold Any; exact trivial) | exact IsSl.new _ _ _ _ | assumption
  case hD =>
    intro xv wx hf hp
    simp only [List.take_succ_cons, List.take_zero, List.drop_succ_cons, List.drop_zero, fill, List.setIfInBounds_toArray, List.set_cons_zero, List.set_cons_succ, Nat.reduceAdd, Act.put]
    rw [show live 5 (deadC [none, none, none, none, none]) = [0, 1, 2, 3, 4] from by decide] at hp
    simp only [holds, nth, Is, Any, true_and, and_true] at hp
    obtain ⟨p0, p1, p2, p3, p4⟩ := hp
    simp only [p3, p4]
    have HK := Lib.hid (clk_Stop wx v.c v.cl 4 v.now m.tm k (H.out.fr0 hf).clk hl)
    have HF := Lib.hid hf
    clear p0 p1 p2 p3 p4 k0 k1 k15 hf
    go_wp2_with fail
    refine HK.out.mono ?_
    rintro e w2 ⟨rfl, hc⟩
    have HFIN := Lib.hid (TieTo.trans (HF.out.mono (by simp)) (fun x hx => .inl hx) rfl rfl ((H.out.fr0 HF.out).setClk hc))
    clear hc
    go_wp2
    go_end0
    exact ⟨rfl, HFIN.out⟩

/-- It tried once more. -/
def retryM (m : TM) : TM := { m with retries := m.retries + 1 }
theorem tie_retry1 (w : World) (v : TV) (m : TM) (b0 : Nat) (h : IsTie w v m) (h0 : w.cell? ⟨b0, 0, none⟩ = some (.pointer (some ⟨v.t, 0, none⟩))) (hr : 0 ≤ m.retries ∧ m.retries ≤ 1000000) :
    Calls Tryz.prog 161 #[.pointer (some ⟨b0, 0, none⟩)] w fun e w' => e = .returned (.tuple #[]) ∧ TieTo w w' v (retryM m) := by
  have hw : IntKind.i64.wrap (m.retries + 1) = m.retries + 1 := IntWalk.i64_in _ (by omega)
  have c18 := h.c18
  have z18 := h.z 18
  obtain ⟨h2, f2⟩ := h.set1 18 (.int .i64 (m.retries + 1)) (retryM m) rfl rfl
  have HFIN := Lib.hid (h2.toT f2)
  clear h h2 f2
  go_enter Tryz.func161, Tryz.ntmps161
  go_wp2
  go_end0
  exact ⟨rfl, HFIN.out⟩

/-- The other one is busy, or not. -/
def peerM (m : TM) (f : Bool) : TM := if f then { m with busy := true } else { m with busy := false, tm := tstop m.tm 32 }
theorem tie_peer1 (w : World) (v : TV) (m : TM) (f : Bool) (b0 b1 : Nat) (h : IsTie w v m) (h0 : w.cell? ⟨b0, 0, none⟩ = some (.bool f)) (h1 : w.cell? ⟨b1, 0, none⟩ = some (.pointer (some ⟨v.t, 0, none⟩))) (hb0 : b0 ∉ v.foot) (hb1 : b1 ∉ v.foot) (hl : m.tm.length ≤ 1000) :
    Calls Tryz.prog 207 #[.pointer (some ⟨b0, 0, none⟩), .pointer (some ⟨b1, 0, none⟩)] w fun e w' => e = .returned (.tuple #[]) ∧ TieTo w w' v (peerM m f) := by
  obtain ⟨h2, f2⟩ := h.set1 19 (.bool f) { m with busy := f } rfl rfl
  have z19 := h.z 19
  have c19 := h.c19
  have h0' := f2.cell h0 (by simp; intro e; exact hb0 (e ▸ v.t_foot))
  have h1' := f2.cell h1 (by simp; intro e; exact hb1 (e ▸ v.t_foot))
  have c15 := h2.c15
  have F2 := Lib.hid (h2.toT f2)
  have FF := Lib.hid f2
  have H2 := Lib.hid h2
  have mixed := mixed_
  clear h h2 f2
  cases f with
  | true =>
    go_enter Tryz.func207, Tryz.ntmps207
    go_wp2
    go_end0
    exact ⟨rfl, F2.out⟩
  | false =>
    go_enter Tryz.func207, Tryz.ntmps207
    go_wp2_with fail
    refine (clk_Stop _ v.c v.cl 4 v.now m.tm 32 H2.out.clk hl).mono ?_
    rintro e w2 ⟨rfl, hc⟩
    have HFIN := Lib.hid (TieTo.trans FF.out.foot (fun x hx => .inl hx) rfl rfl (H2.out.setClk hc))
    clear hc
    go_wp2
    go_end0
    exact ⟨rfl, HFIN.out⟩

end Go.Proofs.YtneggoonlmmjeaaGreat
namespace Go.Proofs.YtneggoonlmmjeaaGreat
open Go.RowKit Go.Shelf
set_option linter.unusedVariables false
set_option linter.unusedSimpArgs false
set_option maxRecDepth 100000

section numbers
attribute [local go_sem] fld0 fld1 fld2

theorem vars_Acked_low (b : Nat) (cs : Array Value) (s r a n : Int) (w : World) (h : IsV w b cs s r a) (hn : n < 0) :
    Calls Tryz.prog 203 #[.pointer (some ⟨b, 10, none⟩), .int .i64 n] w fun e w' =>
      e = .returned (.int .i64 (-1)) ∧ IsV w' b cs s r a ∧ Fr [b] w w' := by
  go_enter Tryz.func203, Tryz.ntmps203
  go_wp2
  go_quiet (fail)
  go_wp2
  go_ret
  exact ⟨rfl, h, (Fr.refl _ _).drewN _⟩

theorem vars_Acked_high (b : Nat) (cs : Array Value) (s r a n : Int) (w : World) (h : IsV w b cs s r a) (hn : 127 < n) :
    Calls Tryz.prog 203 #[.pointer (some ⟨b, 10, none⟩), .int .i64 n] w fun e w' =>
      e = .returned (.int .i64 (-1)) ∧ IsV w' b cs s r a ∧ Fr [b] w w' := by
  have h1 : ¬ n < 0 := by omega
  have h2 : decide (n < 0) = false := by simpa using h1
  have h3 : 128 ≤ n := by omega
  go_enter Tryz.func203, Tryz.ntmps203
  go_wp2
  go_quiet (fail)
  go_wp2
  go_ret
  exact ⟨rfl, h, (Fr.refl _ _).drewN _⟩

theorem vars_Acked_yes (b : Nat) (cs : Array Value) (s r a n : Int) (w : World) (h : IsV w b cs s r a) (hn0 : 0 ≤ n) (hn1 : n ≤ 127) (hin : (n - a) % 128 ≤ (s - a) % 128) :
    Calls Tryz.prog 203 #[.pointer (some ⟨b, 10, none⟩), .int .i64 n] w fun e w' =>
      e = .returned (.int .i64 ((n - a) % 128)) ∧ IsV w' b cs s r n ∧ Fr [b] w w' := by
  have h2 : decide (n < 0) = false := by simp; omega
  have h3 : decide (128 ≤ n) = false := by simp; omega
  have c0 := After.cell h.c0
  have c2 := After.cell h.c2
  have hd : decide ((n - a) % 128 ≤ (s - a) % 128) = true := decide_eq_true hin
  go_enter Tryz.func203, Tryz.ntmps203
  go_wp2
  refine wp_region_after (by kernel_rfl) (by kernel_rfl) ?_
  repeat (go_big_quiet_step ((go_at_call 168; exact Calls.after (seq_In _ _ _ _))))
  refine wpQuiet_nil ?_
  rintro _ ⟨⟨w1, w1f⟩, rfl⟩
  clear c0 c2
  have h1 := h.fr w1f (by simp)
  have c2 := h1.c2
  have f2 := h1.f 12
  go_wp2_with fail
  refine (seq_Dist _ _ _).mono ?_
  rintro e w2 ⟨rfl, f3⟩
  have h4 := h1.fr f3 (by simp)
  clear c2 f2
  have c2 := h4.c2
  have f2 := h4.f 12
  go_wp2
  go_ret
  exact ⟨rfl, h4.s2 _, ((w1f.tr f3).to1 b).set1 _ _⟩

theorem vars_Acked_no (b : Nat) (cs : Array Value) (s r a n : Int) (w : World) (h : IsV w b cs s r a) (hn0 : 0 ≤ n) (hn1 : n ≤ 127) (hin : ¬ (n - a) % 128 ≤ (s - a) % 128) :
    Calls Tryz.prog 203 #[.pointer (some ⟨b, 10, none⟩), .int .i64 n] w fun e w' =>
      e = .returned (.int .i64 (-1)) ∧ IsV w' b cs s r a ∧ Fr [b] w w' := by
  have h2 : decide (n < 0) = false := by simp; omega
  have h3 : decide (128 ≤ n) = false := by simp; omega
  have c0 := After.cell h.c0
  have c2 := After.cell h.c2
  have hd : decide ((n - a) % 128 ≤ (s - a) % 128) = false := decide_eq_false hin
  go_enter Tryz.func203, Tryz.ntmps203
  go_wp2
  refine wp_region_after (by kernel_rfl) (by kernel_rfl) ?_
  repeat (go_big_quiet_step ((go_at_call 168; exact Calls.after (seq_In _ _ _ _))))
  refine wpQuiet_nil ?_
  rintro _ ⟨⟨w1, w1f⟩, rfl⟩
  clear c0 c2
  go_wp2
  go_ret
  exact ⟨rfl, h.fr w1f (by simp), w1f.to1 b⟩

/-- All ways in one: what is acknowledged. -/
def ackN (s a n : Int) : Int := if 0 ≤ n ∧ n ≤ 127 ∧ (n - a) % 128 ≤ (s - a) % 128 then (n - a) % 128 else -1
def ackA (s a n : Int) : Int := if 0 ≤ n ∧ n ≤ 127 ∧ (n - a) % 128 ≤ (s - a) % 128 then n else a
theorem vars_Acked (b : Nat) (cs : Array Value) (s r a n : Int) (w : World) (h : IsV w b cs s r a) :
    Calls Tryz.prog 203 #[.pointer (some ⟨b, 10, none⟩), .int .i64 n] w fun e w' =>
      e = .returned (.int .i64 (ackN s a n)) ∧ IsV w' b cs s r (ackA s a n) ∧ Fr [b] w w' := by
  unfold ackN ackA
  by_cases h1 : n < 0
  · rw [if_neg (by omega), if_neg (by omega)]; exact vars_Acked_low b cs s r a n w h h1
  · by_cases h2 : 127 < n
    · rw [if_neg (by omega), if_neg (by omega)]; exact vars_Acked_high b cs s r a n w h h2
    · by_cases h3 : (n - a) % 128 ≤ (s - a) % 128
      · rw [if_pos ⟨by omega, by omega, h3⟩, if_pos ⟨by omega, by omega, h3⟩]; exact vars_Acked_yes b cs s r a n w h (by omega) (by omega) h3
      · rw [if_neg (by omega), if_neg (by omega)]; exact vars_Acked_no b cs s r a n w h (by omega) (by omega) h3

end numbers

section window
attribute [local go_sem] Oper.semAt_some
/-- Block b is three numbers: how wide at most, how wide, what is counted. -/
def Is3 (t : TypeId) (w : World) (b : Nat) (s r a : Int) : Prop := Blk w b #[.int .i64 s, .int .i64 r, .int .i64 a] t
abbrev IsWn := Is3 139

theorem Is3.c0 {t : TypeId} {w : World} {b : Nat} {s r a : Int} (h : Is3 t w b s r a) : w.cell? ⟨b, 0, none⟩ = some (.int .i64 s) := Blk.cell h 0 rfl
theorem Is3.c1 {t : TypeId} {w : World} {b : Nat} {s r a : Int} (h : Is3 t w b s r a) : w.cell? ⟨b, 1, none⟩ = some (.int .i64 r) := Blk.cell h 1 rfl
theorem Is3.c2 {t : TypeId} {w : World} {b : Nat} {s r a : Int} (h : Is3 t w b s r a) : w.cell? ⟨b, 2, none⟩ = some (.int .i64 a) := Blk.cell h 2 rfl
theorem Is3.f {t : TypeId} {w : World} {b : Nat} {s r a : Int} (h : Is3 t w b s r a) (i : Nat) : w.frozen? ⟨b, i, none⟩ = false := Blk.free h i
theorem Is3.fr {t : TypeId} {w w' : World} {b : Nat} {s r a : Int} (h : Is3 t w b s r a) {L : List Nat} (k : Fr L w w') (hn : b ∉ L) : Is3 t w' b s r a := Blk.fr h k hn
theorem Is3.al {t : TypeId} {w : World} {b : Nat} {s r a : Int} (h : Is3 t w b s r a) (o : Obj) : Is3 t (w.alloc o) b s r a := Blk.alloc h o
theorem Is3.s0 {t : TypeId} {w : World} {b : Nat} {s r a : Int} (h : Is3 t w b s r a) (x : Int) : Is3 t (w.setCell ⟨b, 0, none⟩ (.int .i64 x)) b x r a := Blk.set h 0 _ rfl
theorem Is3.s1 {t : TypeId} {w : World} {b : Nat} {s r a : Int} (h : Is3 t w b s r a) (x : Int) : Is3 t (w.setCell ⟨b, 1, none⟩ (.int .i64 x)) b s x a := Blk.set h 1 _ rfl
theorem Is3.s2 {t : TypeId} {w : World} {b : Nat} {s r a : Int} (h : Is3 t w b s r a) (x : Int) : Is3 t (w.setCell ⟨b, 2, none⟩ (.int .i64 x)) b s r x := Blk.set h 2 _ rfl
theorem win_steps (b : Nat) (n : Int) (w : World) :
    Calls Tryz.prog 234 #[.pointer (some ⟨b, 0, none⟩), .int .i64 n] w fun e w' =>
      e = .returned (.func (.func 244) #[] #[.pointer (some ⟨w.heap.size + 1, 0, none⟩), .pointer (some ⟨w.heap.size, 0, none⟩)]) ∧
      w' = (w.alloc (.cells #[.pointer (some ⟨b, 0, none⟩)] 90)).alloc (.cells #[.int .i64 n] 3) := by
  go_enter Tryz.func234, Tryz.ntmps234
  go_wp2
  go_ret
  exact ⟨rfl, rfl⟩

/-- How a window opens by one that came through. -/
structure WS where
  d : Int
  c : Int
  i : Int
def WS.next (s : WS) : WS := if s.c + 1 = s.d then ⟨s.d + 1, 0, s.i + 1⟩ else ⟨s.d, s.c + 1, s.i + 1⟩
theorem WS.next_i (s : WS) : s.next.i = s.i + 1 := by unfold WS.next; split <;> rfl

def WCore (m n : Int) (b Bn Bp : Nat) (s : WS) (W : World) : Prop :=
  IsWn W b m s.d s.c ∧ Blk W Bn #[.int .i64 n] 3 ∧ Blk W Bp #[.pointer (some ⟨b, 0, none⟩)] 90

set_option maxHeartbeats 1000000 in
theorem win_iter (m n : Int) (b Bn Bp : Nat) (hn : n ≤ 4611686018427387904) (l : Nat) (J : WS → World → Prop) (hJ : ∀ s W, J s W → WCore m n b Bn Bp s W) (hd : ∀ s W k, J s W → J s (W.drewN k))
    (hY : ∀ s W, J s W → (s.i < n ∧ s.d < m) → YieldAt Fence.wide 0 Tryz.prog l #[.int .i64 s.i] W fun e W' => e = .returned (.bool true) ∧ J s.next W') (s0 : WS) (hs0 : s0.i = 0) (W : World) (h0 : J s0 W) :
    CallsIn Fence.wide 0 Tryz.prog 244 #[.func (.yield l) #[] #[], .pointer (some ⟨Bn, 0, none⟩), .pointer (some ⟨Bp, 0, none⟩)] W fun e W' => (∃ v, e = .returned v) ∧ ∃ s : WS, ¬ (s.i < n ∧ s.d < m) ∧ J s W' := by
  refine callsIn_of_wp Tryz.func244 rfl trivial ?_ rfl
  simp only [Tryz.ntmps244, List.size_toArray, List.length_cons, List.length_nil, Nat.reduceAdd, Nat.reduceSub, Array.replicate_succ, Array.replicate_zero, List.push_toArray, List.append_toArray, List.nil_append, List.cons_append]
  gi_wp2
  gi_loopw [4] (fun i wr => ∃ s : WS, i = .int .i64 s.i ∧ 0 ≤ s.i ∧ J s wr) (fun i _ => (n - intOf i).toNat)
  case atStart => exact ⟨s0, by rw [hs0], by omega, h0⟩
  case round =>
    obtain ⟨s, rfl, hi, hj⟩ := hrel
    obtain ⟨hw, hbn, hbp⟩ := hJ s wr hj
    have cn := hbn.cell 0 rfl
    have cp := hbp.cell 0 rfl
    have c0 := hw.c0
    have c1 := hw.c1
    simp only [List.getElem_toArray, List.getElem_cons_zero] at cn cp
    by_cases h1 : s.i < n
    · by_cases h2 : s.d < m
      · have d1 : decide (s.i < n) = true := by simpa using h1
        have d2 : decide (s.d < m) = true := by simpa using h2
        gi_wp2
        refine wpIn_wide.2 ?_
        go_quiet (fail)
        obtain ⟨fn, tmps, assign, body, hy, hR⟩ := hY s (wr.drewN nq) (hd s wr nq hj) ⟨h1, h2⟩
        gi_wp2
        refine ⟨rfl, hR.mono ?_⟩
        rintro e W2 ⟨rfl, hJ2⟩
        gi_wp2
        go_roundw
        case rel => exact ⟨s.next, by rw [WS.next_i], by rw [WS.next_i]; omega, hJ2⟩
        case measure => simp [intOf]; omega
      · have d1 : decide (s.i < n) = true := by simpa using h1
        have d2 : decide (s.d < m) = false := by simpa using h2
        gi_wp2
        refine wpIn_wide.2 ?_
        go_quiet (fail)
        gi_wp2
        go_end0
        exact ⟨⟨_, rfl⟩, s, by omega, hd _ _ _ hj⟩
    · have d1 : decide (s.i < n) = false := by simpa using h1
      gi_wp2
      refine wpIn_wide.2 ?_
      go_quiet (fail)
      gi_wp2
      go_end0
      exact ⟨⟨_, rfl⟩, s, by omega, hd _ _ _ hj⟩
/-- So often as told, while it is not most wide. -/
def wfin (m n : Int) : Nat → WS → WS
  | 0, s => s
  | k + 1, s => if s.i < n ∧ s.d < m then wfin m n k s.next else s
def ackedW (m n d c : Int) : WS := wfin m n n.toNat ⟨d, c, 0⟩

theorem keepsDrewN {a w : World} (h : KeepsOthers a w) (n : Nat) : KeepsOthers a (w.drewN n) := ⟨h.size, fun k o hk ho => h.same k o hk ho⟩
theorem Blk.put {w : World} {b : Nat} {cs : Array Value} {t : TypeId} (h : Blk w b cs t) {l : Nat} {o : Obj} (o' : Obj) (ho : w.heap[l]? = some o) (hc : o.isCells = false) : Blk (w.putObj l o') b cs t := by
  have hne : b ≠ l := by
    intro e; subst e; rw [Blk] at h; rw [h] at ho; cases ho; cases hc
  rw [Blk, World.putObj_heap_other hne]; exact h
theorem Fr.put {L : List Nat} {a w : World} (h : Fr L a w) {l : Nat} (o' : Obj) (hl : a.heap.size ≤ l) : Fr L a (w.putObj l o') :=
  h.trans (M := [l]) ⟨rfl, rfl, rfl, by simp, fun k _ hn => World.putObj_heap_other (by simpa using hn)⟩ (fun x hx => by simp at hx; subst hx; exact .inr hl)

set_option maxRecDepth 100000 in
set_option maxHeartbeats 2000000 in
theorem win_Acked (b : Nat) (m d c n : Int) (w : World) (h : IsWn w b m d c) (hm : m ≤ 64) (hd0 : 0 ≤ d) (hc0 : 0 ≤ c) (hc1 : c ≤ 64) (hn : n ≤ 4611686018427387904) :
    Calls Tryz.prog 205 #[.pointer (some ⟨b, 0, none⟩), .int .i64 n] w fun e w' => e = .returned (.tuple #[]) ∧ IsWn w' b m (ackedW m n d c).d (ackedW m n d c).c ∧ Fr [b] w w' := by
  refine (callsIn_wide (n := 0)).1 ?_
  refine callsIn_of_wp_marks Tryz.func205 rfl trivial ?_ rfl
  simp only [Tryz.ntmps205, List.size_toArray, List.length_cons, List.length_nil, Nat.reduceAdd, Nat.reduceSub, Array.replicate_succ, Array.replicate_zero, List.push_toArray, List.append_toArray, List.nil_append, List.cons_append]
  refine wpIn_wide.2 ?_
  have hbx := Blk.new w #[.pointer (some ⟨b, 0, none⟩)] 90
  have hbl := h.lt
  go_wp2_with fail
  refine (win_steps _ _ _).mono ?_
  rintro e w1 ⟨rfl, rfl⟩
  go_wp2
  obtain ⟨R, hR⟩ : ∃ R, ackedW m n d c = R := ⟨_, rfl⟩
  have b1 := Blk.new (w.alloc (.cells #[.pointer (some ⟨b, 0, none⟩)] 90)) #[.pointer (some ⟨b, 0, none⟩)] 90
  have b2 := Blk.new ((w.alloc (.cells #[.pointer (some ⟨b, 0, none⟩)] 90)).alloc (.cells #[.pointer (some ⟨b, 0, none⟩)] 90)) #[.int .i64 n] 3
  simp only [World.size_alloc] at b1 b2
  have b0' := (hbx.alloc (.cells #[.pointer (some ⟨b, 0, none⟩)] 90)).alloc (.cells #[.int .i64 n] 3)
  have b1' := b1.alloc (.cells #[.int .i64 n] 3)
  have h' := ((h.al (.cells #[.pointer (some ⟨b, 0, none⟩)] 90)).al (.cells #[.pointer (some ⟨b, 0, none⟩)] 90)).al (.cells #[.int .i64 n] 3)
  have f' := ((((Fr.refl [b] w).alloc (.cells #[.pointer (some ⟨b, 0, none⟩)] 90)).alloc (.cells #[.pointer (some ⟨b, 0, none⟩)] 90)).alloc (.cells #[.int .i64 n] 3))
  have hsz : (((w.alloc (.cells #[.pointer (some ⟨b, 0, none⟩)] 90)).alloc (.cells #[.pointer (some ⟨b, 0, none⟩)] 90)).alloc (.cells #[.int .i64 n] 3)).heap.size = w.heap.size + 3 := by simp
  generalize (((w.alloc (.cells #[.pointer (some ⟨b, 0, none⟩)] 90)).alloc (.cells #[.pointer (some ⟨b, 0, none⟩)] 90)).alloc (.cells #[.int .i64 n] 3)) = W0 at *
  have ht : ackedW m n d c = wfin m n n.toNat ⟨d, c, 0⟩ := rfl
  have hR' : wfin m n (n - 0).toNat ⟨d, c, 0⟩ = R := by rw [← hR, ht]; congr 1; omega
  refine wp_rangeFunc_off (σ := WS) (gf := 244) (lb := #[.pointer (some ⟨w.heap.size + 1 + 1, 0, none⟩), .pointer (some ⟨w.heap.size + 1, 0, none⟩)]) rfl (enters_of Tryz.func244 (by kernel_rfl) rfl)
    (fun s W => WCore m n b (w.heap.size + 1 + 1) (w.heap.size + 1) s W ∧ Blk W w.heap.size #[.pointer (some ⟨b, 0, none⟩)] 90 ∧ wfin m n (n - s.i).toNat s = R ∧ (0 ≤ s.i ∧ 0 ≤ s.c ∧ s.c ≤ 64 + s.i ∧ 0 ≤ s.d) ∧ Fr [b] w W)
    ?hI ?hA ⟨d, c, 0⟩ ⟨⟨h', b2, b1'⟩, b0', hR', by simp; omega, f'⟩ (fun s => #[.int .i64 s.i]) (fun _ => rfl) (fun s => s.i < n ∧ s.d < m) WS.next ?iter ?drew
    (fun s => { tmps := #[.pointer (some ⟨b, 0, none⟩), .int .i64 n, .pointer (some ⟨w.heap.size, 0, none⟩), undef, .pointer (some ⟨b, 0, none⟩), .bool false, .pointer (some ⟨b, 0, none⟩), .int .i64 n, .func (.func 244) #[] #[.pointer (some ⟨w.heap.size + 1 + 1, 0, none⟩), .pointer (some ⟨w.heap.size + 1, 0, none⟩)], .int .i64 s.i, undef, undef, undef, undef, undef, undef, undef, undef, undef, undef, undef, undef, undef, undef, undef, undef, undef, undef, undef, undef, undef, undef, undef, undef, undef, undef, undef], defers := [] }) ?assign ?body ?done
  case hI =>
    rintro s W l o o' ⟨⟨i1, i2, i3⟩, i4, i5, i6, i7⟩ hl ho hc _
    exact ⟨⟨Blk.put i1 o' ho hc, Blk.put i2 o' ho hc, Blk.put i3 o' ho hc⟩, Blk.put i4 o' ho hc, i5, i6, i7.put o' (by omega)⟩
  case hA =>
    rintro s W o ⟨⟨i1, i2, i3⟩, i4, i5, i6, i7⟩
    exact ⟨⟨i1.al _, i2.alloc _, i3.alloc _⟩, i4.alloc _, i5, i6, i7.alloc _⟩
  case drew =>
    rintro s W k ⟨⟨i1, i2, i3⟩, i4, i5, i6, i7⟩
    exact ⟨⟨i1, i2, i3⟩, i4, i5, i6, i7.drewN k⟩
  case iter =>
    intro l J W hJ hd hY hj0
    exact win_iter m n b _ _ hn l J (fun s W h => (hJ s W h).1) hd (fun s W hj hmore => hY s W hj hmore) _ rfl W hj0
  case assign =>
    intro l s W K hK
    gi_wp2
    exact hK
  case body =>
    rintro l ⟨d', c', i'⟩ W ⟨⟨i1, i2, i3⟩, i4, i5, ⟨i60, i61, i62, i63⟩, i7⟩ ⟨hm1, hm2⟩
    simp only at i1 i5 i60 i61 i62 i63 hm1 hm2 ⊢
    have cp := i4.cell 0 rfl
    simp only [List.getElem_toArray, List.getElem_cons_zero] at cp
    have e1 := i1.c1
    have e2 := i1.c2
    have ef1 := i1.f 1
    have ef2 := i1.f 2
    have hbS : b ≠ w.heap.size := by omega
    have hbB1 : b ≠ w.heap.size + 1 := by omega
    have hbB2 : b ≠ w.heap.size + 1 + 1 := by omega
    gi_wp2
    have k1 := i1.s2 (c' + 1)
    have k2 := i2.far (p := ⟨b, 2, none⟩) (Ne.symm hbB2) (.int .i64 (c' + 1))
    have k3 := i3.far (p := ⟨b, 2, none⟩) (Ne.symm hbB1) (.int .i64 (c' + 1))
    have k4 := i4.far (p := ⟨b, 2, none⟩) (Ne.symm hbS) (.int .i64 (c' + 1))
    have k7 := i7.set1 2 (.int .i64 (c' + 1))
    have k8 : KeepsOthers W (W.setCell ⟨b, 2, none⟩ (.int .i64 (c' + 1))) := KeepsOthers.setCell _ _ _
    clear e1 e2 ef1 ef2 cp i1 i2 i3 i4 i7
    generalize W.setCell ⟨b, 2, none⟩ (.int .i64 (c' + 1)) = W1 at *
    have cp := k4.cell 0 rfl
    simp only [List.getElem_toArray, List.getElem_cons_zero] at cp
    have e1 := k1.c1
    have e2 := k1.c2
    have ef1 := k1.f 1
    have ef2 := k1.f 2
    by_cases hcd : c' + 1 = d'
    · have hb : (c' + 1 == d') = true := by rw [beq_iff_eq]; exact hcd
      have i5' : wfin m n (n - (i' + 1)).toNat ⟨d' + 1, 0, i' + 1⟩ = R := by
        rw [← i5, show (n - i').toNat = (n - (i' + 1)).toNat + 1 by omega]
        simp only [wfin, WS.next]
        rw [if_pos ⟨hm1, hm2⟩, if_pos hcd]
      clear i5
      have hcd' : Hid (c' + 1 = d') := hcd
      clear hcd
      refine wpIn_region_quiet_round (by kernel_rfl) (by kernel_rfl) (by kernel_rfl) (fun ⟨_, _, h⟩ => h) ?_
      repeat (go_big_quiet_step (fail))
      refine wpQuiet_nil ?_
      rintro _ ⟨nq, rfl⟩
      have hw1 : IntKind.i64.wrap (d' + 1) = d' + 1 := IntWalk.i64_in _ (by omega)
      gi_wp2
      have hp0 : (W1.drewN nq).drew.cell? ⟨w.heap.size, 0, none⟩ = some (.pointer (some ⟨b, 0, none⟩)) := cp
      haveI : Nonempty (Held fun w' => w'.cell? ⟨w.heap.size, 0, none⟩ = some (.pointer (some ⟨b, 0, none⟩))) := ⟨⟨_, hp0⟩⟩
      have hcb : ∀ n : Held fun w' => w'.cell? ⟨w.heap.size, 0, none⟩ = some (.pointer (some ⟨b, 0, none⟩)), n.x.cell? ⟨w.heap.size, 0, none⟩ = some (.pointer (some ⟨b, 0, none⟩)) := fun n => n.ok
      refine wpIn_region_mix (fun x => ∃ n : Held fun w' => w'.cell? ⟨w.heap.size, 0, none⟩ = some (.pointer (some ⟨b, 0, none⟩)), x = n.x) [some 5, none, some 3, none, some 2, none] (by kernel_rfl) (by kernel_rfl) (by kernel_rfl) (by kernel_rfl) ⟨⟨_, hp0⟩, rfl⟩ ?_
      simp only [wpMix, List.take_succ_cons, List.take_zero, List.drop_succ_cons, List.drop_zero]
      repeat (go_big_quiet_step (fail))
      refine wpQuiet_nil ?_
      go_wp2
      refine ⟨⟨⟨_, hp0⟩, rfl⟩, ?_⟩
      simp only []
      repeat (go_big_quiet_step (fail))
      refine wpQuiet_nil ?_
      go_wp2
      have k4d : Blk (W1.drewN (nq + 1)) w.heap.size #[.pointer (some ⟨b, 0, none⟩)] 90 := k4
      have k4a := k4d.far (p := ⟨b, 1, none⟩) (Ne.symm hbS) (.int .i64 (d' + 1))
      refine ⟨⟨⟨_, k4a.cell 0 rfl⟩, rfl⟩, ?_⟩
      simp only []
      repeat (go_big_quiet_step (fail))
      refine wpQuiet_nil ?_
      go_wp2
      have k4b := k4a.far (p := ⟨b, 2, none⟩) (Ne.symm hbS) (.int .i64 0)
      refine ⟨⟨⟨_, k4b.cell 0 rfl⟩, rfl⟩, ?_⟩
      simp only []
      have hnx : WS.next ⟨d', c', i'⟩ = ⟨d' + 1, 0, i' + 1⟩ := by unfold WS.next; rw [if_pos hcd'.out]
      have HN := Lib.hid hnx
      clear hnx
      gi_wp2
      show KeepsOthers _ _ ∧ _
      rw [HN.out]
      refine ⟨((keepsDrewN k8 (nq + 1)).trans (KeepsOthers.setCell _ _ _)).trans (KeepsOthers.setCell _ _ _), ⟨(k1.s1 _).s2 _, (k2.far (Ne.symm hbB2) _).far (Ne.symm hbB2) _, (k3.far (Ne.symm hbB1) _).far (Ne.symm hbB1) _⟩, k4b, i5', ⟨by simp only; omega, by simp only; omega, by simp only; omega, by simp only; omega⟩, ?_⟩
      exact (((k7.drewN (nq + 1))).set1 _ _).set1 _ _
    · have hb : (c' + 1 == d') = false := by rw [beq_eq_false_iff_ne]; exact hcd
      have i5' : wfin m n (n - (i' + 1)).toNat ⟨d', c' + 1, i' + 1⟩ = R := by
        rw [← i5, show (n - i').toNat = (n - (i' + 1)).toNat + 1 by omega]
        simp only [wfin, WS.next]
        rw [if_pos ⟨hm1, hm2⟩, if_neg hcd]
      clear i5
      have hnx : WS.next ⟨d', c', i'⟩ = ⟨d', c' + 1, i' + 1⟩ := by unfold WS.next; rw [if_neg hcd]
      refine wpIn_region_quiet_round (by kernel_rfl) (by kernel_rfl) (by kernel_rfl) (fun ⟨_, _, h⟩ => h) ?_
      repeat (go_big_quiet_step (fail))
      refine wpQuiet_nil ?_
      rintro _ ⟨nq, rfl⟩
      have HN := Lib.hid hnx
      clear hnx
      gi_wp2
      show KeepsOthers _ _ ∧ _
      rw [HN.out]
      exact ⟨keepsDrewN k8 nq, ⟨k1, k2, k3⟩, k4, i5', ⟨by simp only; omega, by simp only; omega, by simp only; omega, by simp only; omega⟩, k7.drewN nq⟩
  case done =>
    rintro D ⟨d', c', i'⟩ W hD hmore ⟨⟨i1, i2, i3⟩, i4, i5, i6, i7⟩ hK
    go_wp2
    have hfin : R = ⟨d', c', i'⟩ := by
      rw [← i5]
      cases (n - i').toNat with
      | zero => rfl
      | succ k => simp only [wfin]; rw [if_neg hmore]
    refine ⟨by simp, .inl ⟨_, _, rfl, run_takeDeferred hK, ?_⟩⟩
    rw [hfin]
    exact ⟨_, results_none rfl _ _ _, rfl, Blk.put i1 _ hK rfl, i7.put _ (by omega)⟩
end window
end Go.Proofs.YtneggoonlmmjeaaGreat
namespace Go.Proofs.YtneggoonlmmjeaaGreat
open Go.RowKit Go.Shelf
set_option linter.unusedVariables false
set_option linter.unusedSimpArgs false
set_option maxRecDepth 100000

theorem flat1 : ∀ {xs : List (List Value)}, (∀ x ∈ xs, x.length = 1) → xs.flatten.length = xs.length
  | [], _ => rfl
  | x :: xs, h => by
    have h1 := h x (by simp)
    have h2 := flat1 (xs := xs) fun y hy => h y (by simp [hy])
    simp [h1, h2]; omega
theorem flat1_drop : ∀ {xs : List (List Value)} (n : Nat), (∀ x ∈ xs, x.length = 1) → (xs.drop n).flatten = xs.flatten.drop n
  | [], n, _ => by simp
  | x :: xs, 0, _ => by simp
  | x :: xs, n + 1, h => by
    have h1 := h x (by simp)
    have h2 := flat1_drop (xs := xs) n fun y hy => h y (by simp [hy])
    obtain ⟨u, rfl⟩ := List.length_eq_one_iff.1 h1
    simp [h2]
theorem All2.drop {α β : Type} {r : β → α → Prop} : ∀ {xs : List β} {ys : List α} (n : Nat), All2 r xs ys → All2 r (xs.drop n) (ys.drop n)
  | [], [], _, _ => by simp [All2]
  | _ :: _, _ :: _, 0, h => by simpa using h
  | _ :: _, _ :: _, n + 1, ⟨_, h2⟩ => by simpa using h2.drop n

theorem isnil_bb (A : Addr) (n c : Nat) (w : World) : (binOp BinOp.eql 34 (Value.slice (some A) n c) (Value.slice none 0 0)).run Tryz.prog w = .ok (.bool false) w := by kernel_rfl
attribute [local go_sem] isnil_bb
/-- A row of rows of bytes is laid anew, of what is read at a place. -/
theorem bb_Clone (w : World) (g o k c : Nat) (vs : List Value) (hlt : g < w.heap.size) (hs : ∀ j u, vs[j]? = some u → w.cell? ⟨g, o + j, none⟩ = some u) (hk : vs.length = k) (h1 : ∀ u ∈ vs, u.oneCell' = true) (hl : k ≤ 1000) :
    Calls Tryz.prog 240 #[.slice (some ⟨g, o, none⟩) k c] w fun e w' => ∃ s' : Sl, e = .returned (.slice s'.A s'.n s'.c) ∧ w'.ownsRow 0 49 1 s'.v k vs ∧ (∀ b ∈ s'.blk, w.heap.size ≤ b) ∧ Fr [] w w' := by
  obtain ⟨i0, hi0, hz0, hz1, hz2⟩ := bb_info
  have hun : Tryz.prog.underlying 34 = some (.slice 49) := Tryz.underlying34
  have f1 := (Fr.refl [] w).alloc (.cells #[] 49)
  have hsr : Src k vs (w.alloc (.cells #[] 49)) (.slice (some ⟨g, o, none⟩) k c) := .inr ⟨⟨g, o, none⟩, c, rfl, fun j u hj => by
    rw [Go.WideShapes.add_plain]
    exact f1.cell (hs j u hj) (by simp)⟩
  have ho : (w.alloc (.cells #[] 49)).ownsRow 0 49 1 (Sl.v ⟨some ⟨w.heap.size, 0, none⟩, 0, 0⟩) 0 [] := World.ownsRow_made _ #[] 0 (Nat.zero_le _) (Nat.zero_le _) rfl
  have HSR := Lib.hid hsr
  have HO := Lib.hid ho
  have HONE := Lib.hid h1
  have HK := Lib.hid hk
  clear hs hsr ho h1 f1 hk
  go_enter Tryz.func240, Tryz.ntmps240
  go_wp2_with (at_builtin; refine wpList_push rfl _ _ 34 rfl 49 i0 (.slice none 0 0) 1 24 hun hi0 hz0 hz1 hz2 rfl (by decide) ⟨some ⟨w.heap.size, 0, none⟩, 0, 0⟩ 0 [] rfl HO.out (.slice (some ⟨g, o, none⟩) k c) k vs rfl HSR.out (by rw [HK.out]; omega) HONE.out (by unfold maxLen; omega) (by omega) ?_)
  intro s' w3 hp
  have hsz := ((Fr.refl [] w).alloc (.cells #[] 49)).size
  have hnew : ∀ x ∈ s'.blk, w.heap.size ≤ x := fun x hx => by
    rcases hp.2.2 x hx with h1 | h1
    · simp [Sl.blk] at h1; omega
    · omega
  have hfr : Fr [] w w3 := ((Fr.refl [] w).alloc (.cells #[] 49)).trans hp.2.1 (fun x hx => .inr (by simp [Sl.blk] at hx; omega))
  have hro : w3.ownsRow 0 49 1 s'.v k vs := by have := hp.1; simpa using this
  have HFIN := Lib.hid (And.intro hro (And.intro hnew hfr))
  clear hp hsz hnew hfr hro
  go_wp2
  go_ret
  exact ⟨s', rfl, HFIN.out⟩

set_option maxHeartbeats 1000000 in
theorem que_Cut (w : World) (q : Nat) (s : Sl) (most : Int) (l : List (List Int)) (n : Nat) (h : IsQue w q s most l) (h0 : 0 < n) (hn : n ≤ l.length) (hl : l.length ≤ 1000) :
    Calls Tryz.prog 228 #[.pointer (some ⟨q, 0, none⟩), .int .i64 n] w fun e w' => e = .returned (.int .i64 n) ∧ QueTo w w' q s most (l.drop n) := by
  have hm : max (n : Int) 0 = n := by omega
  have hm2 : min (n : Int) l.length = n := by omega
  have d1 : (0 : Int) < n := by omega
  have HQ := Lib.hid h
  have c1 := h.c1
  have z1 := h.head.free 1
  obtain ⟨xs, ho, h2, h3⟩ := h.row
  have hx1 := flat1 h3
  have hxl := h2.len
  obtain ⟨g, hA, hc⟩ := own_at ho (by omega)
  have hgl : g < w.heap.size := by obtain ⟨_, cs, e⟩ := own_blk ho g (by simp [Sl.blk, hA]); exact (Array.getElem?_eq_some_iff.1 e).1
  rw [hA] at c1
  have hv1 : ∀ u ∈ xs.flatten, u.oneCell' = true := by
    intro u hu
    obtain ⟨x, hx, hux⟩ := List.mem_flatten.1 hu
    obtain ⟨i, hi, e⟩ := List.getElem_of_mem hx
    obtain ⟨t, et, _⟩ := h2.get i hi (by omega)
    rw [e] at et
    subst et
    simp at hux
    subst hux
    rfl
  have hv2 : ∀ u ∈ (xs.drop n).flatten, u.oneCell' = true := fun u hu => hv1 u (by rw [flat1_drop n h3] at hu; exact List.mem_of_mem_drop hu)
  have hk : (xs.drop n).flatten.length = l.length - n := by rw [flat1_drop n h3, List.length_drop]; omega
  have hfin : ∀ (w2 : World) (s' : Sl), w2.ownsRow 0 49 1 s'.v (l.length - n) (xs.drop n).flatten → (∀ b ∈ s'.blk, w.heap.size ≤ b) → Fr [] w w2 →
      w2.cell? ⟨q, 1, none⟩ = some (.slice (some ⟨g, 0, none⟩) l.length s.c) ∧ w2.frozen? ⟨q, 1, none⟩ = false ∧ QueTo w (w2.setCell ⟨q, 1, none⟩ (.slice s'.A s'.n s'.c)) q s most (l.drop n) := by
    intro w2 s' hr hnew f
    have hh := h.head.fr f (by simp)
    have fs : Fr [q] w2 (w2.setCell ⟨q, 1, none⟩ (.slice s'.A s'.n s'.c)) := (Fr.refl [q] w2).setCell _ (.inl (by simp))
    have hqs : q ∉ s'.blk := fun hm => by have := hnew q hm; have := h.head.lt; omega
    have hrow : BRow s' (l.drop n) w2 := ⟨xs.drop n, by rw [List.length_drop]; exact hr, (h2.drop n).imp fun _ _ ⟨t, e, hb⟩ => ⟨t, e, hb.fr f⟩, fun x hx => h3 x (List.mem_of_mem_drop hx)⟩
    refine ⟨f.cell c1 (by simp), hh.free 1, s', ⟨Blk.set hh 1 _ rfl, hrow.frL fs (fun y hy => by simp at hy; subst hy; exact Blk.noU hh (by decide)) (fun b hb hm => by simp at hm; subst hm; exact hqs hb), hqs⟩, ((f.mono (M := q :: s.blk) (by simp)).setCell _ (.inl (by simp))), fun y hy => .inr (hnew y hy)⟩
  have HF := Lib.hid hfin
  have HK := Lib.hid hk
  have HV := Lib.hid hv2
  have HR : ∀ o, (∀ j u, (xs.drop n).flatten[j]? = some u → w.cell? ⟨g, o + j, none⟩ = some u) → Hid (∀ j u, (xs.drop n).flatten[j]? = some u → w.cell? ⟨g, o + j, none⟩ = some u) := fun o h => Lib.hid h
  have HR1 := HR n (fun j u hj => by
    rw [flat1_drop n h3, List.getElem?_drop] at hj
    exact hc _ _ hj)
  clear HR h hfin hk hv1 hv2 hc ho h2 h3
  go_enter Tryz.func228, Tryz.ntmps228
  go_wp2_with fail
  refine (que_Len w q s most l HQ.out).mono ?_
  rintro e w1 ⟨rfl, rfl⟩
  go_wp2_with fail
  case inr =>
    try simp only [Option.map_some, Go.WideShapes.add_plain, Nat.zero_add]
    refine (bb_Clone w g n (l.length - n) (s.c - n) _ hgl HR1.out HK.out HV.out (by omega)).mono ?_
    rintro e w2 ⟨s', rfl, hr, hnew, f⟩
    obtain ⟨c1', z1', hq⟩ := HF.out w2 s' hr hnew f
    have HFIN := Lib.hid hq
    clear hr hnew f hq c1 z1
    go_wp2
    go_ret
    exact ⟨rfl, HFIN.out⟩
  case inl =>
    have hln : l.length - n = 0 := by
      obtain ⟨ys, ho, _⟩ := HQ.out.row
      obtain ⟨A', c', e', h1⟩ := own_cap ho
      cases s
      simp only [Sl.v, Value.slice.injEq] at e'
      simp only at h
      omega
    have hvn : (xs.drop n).flatten = [] := List.eq_nil_of_length_eq_zero (by rw [HK.out]; exact hln)
    refine (bb_Clone w g 0 (l.length - n) 0 (xs.drop n).flatten hgl (by rw [hvn]; simp) HK.out HV.out (by omega)).mono ?_
    rintro e w2 ⟨s', rfl, hr, hnew, f⟩
    obtain ⟨c1', z1', hq⟩ := HF.out w2 s' hr hnew f
    have HFIN := Lib.hid hq
    clear hr hnew f hq c1 z1 hvn hln
    go_wp2
    go_ret
    exact ⟨rfl, HFIN.out⟩

theorem back_Acked (w : World) (k q : Nat) (s : Sl) (most : Int) (o n : Nat) (l : List (List Int)) (h : IsBack w k q s most o l) (hn : 0 < n) (hno : n ≤ o) (hol : o ≤ l.length) (hl : l.length ≤ 1000) :
    Calls Tryz.prog 204 #[.pointer (some ⟨k, 0, none⟩), .int .i64 n] w fun e w' => e = .returned (.int .i64 n) ∧ BackTo w w' k q s most ((o - n : Nat) : Int) (l.drop n) := by
  have hm : min (n : Int) o = n := by omega
  have ow : IntKind.i64.wrap ((o : Int) - n) = ((o - n : Nat) : Int) := by rw [IntWalk.i64_in _ (by omega)]; omega
  go_enter Tryz.func204, Tryz.ntmps204
  go_wp2_with fail
  refine (back_row w k q s most o l h).mono ?_
  rintro e w1 ⟨rfl, rfl⟩
  go_wp2_with fail
  refine (back_Out w k q s most o l h).mono ?_
  rintro e w1 ⟨rfl, rfl⟩
  go_wp2_with fail
  refine (que_Cut w q s most l n h.que hn (by omega) hl).mono ?_
  rintro e w1 ⟨rfl, s', hq, f, hnew⟩
  have hk : k ∉ q :: s.blk := fun hm => by rcases List.mem_cons.1 hm with e | hm; exact h.kq e; exact h.ks hm
  have hb := h.back.fr f hk
  have c1 := hb.cell 1 rfl
  have z1 := hb.free 1
  simp only [List.getElem_toArray, List.getElem_cons_zero, List.getElem_cons_succ] at c1
  have hks : k ∉ s'.blk := fun hm => by
    rcases hnew k hm with h1 | h1
    · exact h.ks h1
    · have := h.back.lt; omega
  have fs : Fr [k] w1 (w1.setCell ⟨k, 1, none⟩ (.int .i64 ((o - n : Nat) : Int))) := (Fr.refl [k] w1).setCell _ (.inl (by simp))
  have hfin : BackTo w (w1.setCell ⟨k, 1, none⟩ (.int .i64 ((o - n : Nat) : Int))) k q s most ((o - n : Nat) : Int) (l.drop n) :=
    ⟨s', ⟨Blk.set hb 1 _ rfl, hq.fr fs (fun x hx hm => by simp at hm; subst hm; rcases List.mem_cons.1 hx with e | hx; exact h.kq e; exact hks hx) (fun y hy => by simp at hy; subst hy; exact Blk.noU hb (by decide)), h.kq, hks⟩, (f.mono (M := k :: q :: s.blk) (fun x hx => .inl (List.mem_cons_of_mem _ hx))).setCell _ (.inl (by simp)), hnew⟩
  have HFIN := Lib.hid hfin
  clear h hk hb hks fs hfin hq f hnew
  go_wp2
  go_ret
  exact ⟨rfl, HFIN.out⟩

theorem back_Clear (w : World) (k q : Nat) (s : Sl) (most out : Int) (l : List (List Int)) (h : IsBack w k q s most out l) (hl : l.length ≤ 1000) :
    Calls Tryz.prog 195 #[.pointer (some ⟨k, 0, none⟩)] w fun e w' => (∃ v, e = .returned (.int .i64 v)) ∧ BackTo w w' k q s most 0 [] := by
  by_cases hn : l = []
  · subst hn
    exact (back_Clear0 w k q s most out h).mono fun e w' ⟨he, h1, f⟩ => ⟨⟨_, he⟩, BackTo.of h1 f⟩
  · have h0 : 0 < l.length := List.length_pos_iff.2 hn
    go_enter Tryz.func195, Tryz.ntmps195
    go_wp2_with fail
    refine (back_Again w k q s most out l h).mono ?_
    rintro e w1 ⟨rfl, h1, f1⟩
    go_wp2_with fail
    refine (back_row w1 k q s most 0 l h1).mono ?_
    rintro e w2 ⟨rfl, rfl⟩
    go_wp2_with fail
    refine (back_Len w1 k q s most 0 l h1).mono ?_
    rintro e w2 ⟨rfl, rfl⟩
    go_wp2_with fail
    refine (que_Cut w1 q s most l l.length h1.que h0 (Nat.le_refl _) hl).mono ?_
    rintro e w2 ⟨rfl, s', hq, f, hnew⟩
    rw [List.drop_length] at hq
    have hk : k ∉ q :: s.blk := fun hm => by rcases List.mem_cons.1 hm with e | hm; exact h1.kq e; exact h1.ks hm
    have hfin : BackTo w w2 k q s most 0 [] := ⟨s', ⟨h1.back.fr f hk, hq, h1.kq, fun hm => by
      rcases hnew k hm with h2 | h2
      · exact h1.ks h2
      · have := h1.back.lt; omega⟩, (f1.mono (M := k :: q :: s.blk) (fun x hx => .inl (by simp at hx; simp [hx]))).trans f (fun x hx => .inl (List.mem_cons_of_mem _ hx)), fun x hx => (hnew x hx).imp id (fun h2 => Nat.le_trans f1.size h2)⟩
    have HFIN := Lib.hid hfin
    clear hfin hk hq f hnew
    go_wp2
    go_ret
    exact ⟨⟨_, rfl⟩, HFIN.out⟩
end Go.Proofs.YtneggoonlmmjeaaGreat
namespace Go.Proofs.YtneggoonlmmjeaaGreat
open Go.RowKit Go.Shelf
set_option linter.unusedVariables false
set_option linter.unusedSimpArgs false
set_option maxRecDepth 100000

/-- What is taken. -/
theorem IsTie.setOk {w w1 : World} {v : TV} {m : TM} {s' : Sl} {l : List (List Int)} (h : IsTie w v m) (hr : BRow s' l w1) (f : Fr v.ok.blk w w1) (n : ∀ x ∈ s'.blk, x ∈ v.ok.blk ∨ w.heap.size ≤ x) : TieTo w (w1.setCell ⟨v.t, 32, none⟩ (.slice s'.A s'.n s'.c)) v { m with took := l } := by
  obtain ⟨ys, hok⟩ := h.ok.own
  have to : ∀ t, 49 ≠ t → TyOut w v.ok.blk t := fun t ne => TyOut.own hok ne
  have hf : ∀ x ∈ v.ok.blk, x ∈ v.foot := fun x hx => by simp [TV.foot, hx]
  have hn : ∀ x ∈ ({ v with ok := s' } : TV).foot, x ∈ v.foot ∨ w.heap.size ≤ x := fun x hx => by
    simp only [TV.foot, List.mem_cons, List.mem_append] at hx ⊢
    rcases hx with hx | hx | hx | hx | hx | hx | hx | hx | hx | hx
    any_goals (left; simp [hx]; done)
    rcases n x hx with h1 | h1
    · left; simp [h1]
    · exact .inr h1
  have hb : Blk w1 v.t (m.cells v) 105 := h.blk.ofTy f (to _ (by decide))
  have f2 : Fr [v.t] w1 (w1.setCell ⟨v.t, 32, none⟩ (.slice s'.A s'.n s'.c)) := (Fr.refl [v.t] w1).setCell _ (.inl (by simp))
  have t2 : ∀ t, 105 ≠ t → TyOut w1 [v.t] t := fun t ne => TyOut.cons hb ne (TyOut.nil _ _)
  have hbk : IsBack w1 v.k v.q v.ql 64 m.out m.q := h.back.ofTy f (to _ (by decide)) (to _ (by decide)) h.dis (to _ (by decide))
  have hos1 : PRow 0 0 v.os m.send w1 := h.os.ofTy f (to _ (by decide)) (to _ (by decide))
  have F : Fr v.foot w (w1.setCell ⟨v.t, 32, none⟩ (.slice s'.A s'.n s'.c)) := (fsub f hf).setCell _ (.inl v.t_foot)
  refine ⟨{ v with ok := s' }, ⟨Blk.set hb 32 _ rfl, ?_, (h.win.ofTy f (to _ (by decide))).ofTy f2 (t2 _ (by decide)), (h.clk.ofTy f (to _ (by decide)) (to _ (by decide))).ofTy f2 (t2 _ (by decide)) (t2 _ (by decide)), hos1.ofTy f2 (t2 _ (by decide)) (t2 _ (by decide)), own_ofTy (own_ofTy h.oy f (to _ (by decide))) f2 (t2 _ (by decide)), ?_, fun x hx hm => ?_, h.tab.fr F h.lohi, Nat.le_trans h.hile F.size, ?_, (h.hd.frL f (to _ (by decide)) (to _ (by decide)) (fun x hx => h.low.2 x (hf x hx))).frL f2 (t2 _ (by decide)) (t2 _ (by decide)) (fun x hx => by simp at hx; subst hx; exact h.low.2 _ v.t_foot), ?_⟩, rfl, rfl, F, hn⟩
  · exact hbk.ofTy f2 (t2 _ (by decide)) (t2 _ (by decide)) (by obtain ⟨_, ho⟩ := hbk.que.row.own; exact own_nin ho (t2 _ (by decide))) (t2 _ (by decide))
  · exact hr.frL f2 (t2 _ (by decide)) (by obtain ⟨_, ho⟩ := hr.own; exact own_nin ho (t2 _ (by decide)))
  · rcases n x hm with h1 | h1
    · exact h.dis x hx h1
    · have := h.lt x (by simp [TV.foot, hx]); omega
  · intro x hx
    rcases hn x hx with h1 | h1
    · exact h.lohi x h1
    · exact .inr (Nat.le_trans h.hile h1)
  · refine ⟨h.low.1, fun x hx => ?_⟩
    rcases hn x hx with h1 | h1
    · exact h.low.2 x h1
    · exact Nat.le_trans h.low.1 (Nat.le_trans h.hile h1)


def takeM (m : TM) : TM := match m.p with | none => m | some d => { m with took := m.took ++ [d.info], vr := (m.vr + 1) % 128 }
set_option maxHeartbeats 2000000 in
theorem tie_take (w : World) (v : TV) (m : TM) (d : PD) (h : IsTie w v m) (hp : m.p = some d) (hl : d.info.length ≤ 100000) (ht : m.took.length ≤ 100000) :
    Calls Tryz.prog 154 #[.pointer (some ⟨v.t, 0, none⟩)] w fun e w' => e = .returned (.tuple #[]) ∧ TieTo w w' v (takeM m) := by
  obtain ⟨i0, hi0, hz0, hz1, hz2⟩ := bb_info
  have hun : Tryz.prog.underlying 34 = some (.slice 49) := Tryz.underlying34
  have eM : takeM m = { m with took := m.took ++ [d.info], vr := (m.vr + 1) % 128 } := by unfold takeM; rw [hp]
  rw [eM]
  have hd := h.hd
  rw [hp] at hd
  obtain ⟨b, s, epp, hb, hs, hbo⟩ := hd
  have c34 := h.c34
  rw [epp] at c34
  have nb : b ∉ v.ok.blk := fun hm => by
    obtain ⟨_, hok⟩ := h.ok.own
    obtain ⟨_, cs, e⟩ := own_blk hok b hm
    exact absurd (Blk.ty hb e) (by decide)
  have nt : v.t ∉ v.ok.blk := fun hm => by
    obtain ⟨_, hok⟩ := h.ok.own
    obtain ⟨_, cs, e⟩ := own_blk hok _ hm
    exact absurd (Blk.ty h.blk e) (by decide)
  have k32 : ∀ wx, Fr v.ok.blk w wx → wx.cell? ⟨v.t, 32, none⟩ = some (.slice v.ok.A v.ok.n v.ok.c) := fun wx hf => hf.cell h.c32 nt
  have k34 : ∀ wx, Fr v.ok.blk w wx → wx.cell? ⟨v.t, 34, none⟩ = some (.pointer (some ⟨b, 0, none⟩)) := fun wx hf => hf.cell c34 nt
  have k8 : ∀ wx, Fr v.ok.blk w wx → wx.cell? ⟨b, 8, none⟩ = some (.slice s.A s.n s.c) := fun wx hf => hf.cell (hb.cell 8 rfl) nb
  have hs : ∀ wx, Fr v.ok.blk w wx → Bts v.n0 wx s d.info := fun wx hf => hs.frL hf fun x hx => ⟨h.low.2 x (by simp [TV.foot, hx]), BRow.off h.ok x hx⟩
  have HT := Lib.hid h
  have HS := Lib.hid hs
  have HLT := Lib.hid ht
  clear h eM hp hb hs hbo epp ht nb nt
  go_enter Tryz.func154, Tryz.ntmps154
  go_wp2
  clear c34
  refine wp_region_keepsC v.ok.blk [false, false, false, false, false, false, false, false, false, false, false, false, false, false, false, true] [none, none, none, none, none, some 15, none, none, none, none, none, none, none, some 15, some 15, some 16] (BRow v.ok m.took) [Is (.pointer (some ⟨v.t, 0, none⟩)), Is (.pointer (some ⟨v.t, 0, none⟩)), Is (.pointer (some ⟨v.t, 0, none⟩)), Is (.pointer (some ⟨v.t, 30, none⟩)), Is (.pointer (some ⟨v.t, 32, none⟩)), (IsW (.slice v.ok.A v.ok.n v.ok.c) (BRow v.ok m.took)), Is (.pointer (some ⟨v.t, 0, none⟩)), Is (.pointer (some ⟨v.t, 0, none⟩)), Is (.pointer (some ⟨v.t, 34, none⟩)), Is (.pointer (some ⟨b, 0, none⟩)), Is (.pointer (some ⟨b, 0, none⟩)), Is (.pointer (some ⟨b, 8, none⟩)), Is (.slice s.A s.n s.c), (CloneF 0 d.info), (SrcF 0 d.info (fun s => #[.slice s.A s.n s.c])), (RowF (fun s l W => BRow s l W ∧ ∀ x ∈ s.blk, x ∈ v.ok.blk ∨ w.heap.size ≤ x) (m.took ++ [d.info]))] 16 (by kernel_rfl) (by kernel_rfl) (by kernel_rfl) (by kernel_rfl) (by kernel_rfl) (by kernel_rfl) (by kernel_rfl) (by kernel_rfl) ?hV (fun _ _ f h => BRow.fr f h) (HT.out.ok) ?hS ?hD
  case hV =>
    repeat (first | exact trivial | exact Is.keepsN _ | exact Any.keepsN | exact IsW.keeps (fun _ _ f h => BRow.fr f h) | exact CloneF.keeps | exact SrcF.keeps | exact RowF.keeps (fun _ _ _ f h => ⟨BRow.fr f h.1, h.2⟩) | refine And.intro ?_ ?_)
  case hS =>
    (repeat' (first | exact trivial | refine And.intro ?_ ?_))
    · intro ac wx hf hbs hs hp K hK
      simp only [waits, holdsA, nth, Is, Any, List.filter_cons, List.filter_nil, List.map_cons, List.map_nil, Region.binds, if_true, true_and, and_true, Nat.reduceAdd, List.getElem?_cons_zero, List.getElem?_cons_succ, Option.bind_some, Array.getD_eq_getD_getElem?] at hp
      have hs0 := hs 0 (by kernel_rfl)
      simp only [Array.getD_eq_getD_getElem?, List.getElem?_toArray, List.getElem?_cons_succ, List.getElem?_cons_zero, Option.getD_some] at hs0
      clear hs
      clear hbs
      clear hp
      clear hf
      go_simp
      try dsimp only
      refine hK.out _ _ ?_ ?_
      · change Fr [] _ _
        ((repeat (first | (with_reducible exact Fr.refl _ _) | (with_reducible assumption) | (with_reducible refine Fr.drew ?_) | (with_reducible refine Fr.drewN ?_ _) | (with_reducible refine Fr.alloc ?_ _) | (with_reducible refine Fr.setL ?_ _ _ _ ?_) | (focus (refine Or.inl ?_; simp; done)) | (focus (refine Or.inr ?_; simp; done)) | (focus (refine Or.inr ?_; simp; omega)) | (focus (refine Or.inr ?_; omega)))); done)
      · simp only [nth]
        first | (unfold Is; rfl) | (unfold Any; exact trivial) | exact IsSl.new _ _ _ _ | assumption
    · intro ac wx hf hbs hs hp K hK
      simp only [waits, holdsA, nth, Is, Any, List.filter_cons, List.filter_nil, List.map_cons, List.map_nil, Region.binds, if_true, true_and, and_true, Nat.reduceAdd, List.getElem?_cons_zero, List.getElem?_cons_succ, Option.bind_some, Array.getD_eq_getD_getElem?] at hp
      have hs0 := hs 0 (by kernel_rfl)
      simp only [Array.getD_eq_getD_getElem?, List.getElem?_toArray, List.getElem?_cons_succ, List.getElem?_cons_zero, Option.getD_some] at hs0
      clear hs
      clear hbs
      clear hp
      clear hf
      go_simp
      try dsimp only
      refine hK.out _ _ ?_ ?_
      · change Fr [] _ _
        ((repeat (first | (with_reducible exact Fr.refl _ _) | (with_reducible assumption) | (with_reducible refine Fr.drew ?_) | (with_reducible refine Fr.drewN ?_ _) | (with_reducible refine Fr.alloc ?_ _) | (with_reducible refine Fr.setL ?_ _ _ _ ?_) | (focus (refine Or.inl ?_; simp; done)) | (focus (refine Or.inr ?_; simp; done)) | (focus (refine Or.inr ?_; simp; omega)) | (focus (refine Or.inr ?_; omega)))); done)
      · simp only [nth]
        first | (unfold Is; rfl) | (unfold Any; exact trivial) | exact IsSl.new _ _ _ _ | assumption
    · intro ac wx hf hbs hs hp K hK
      simp only [waits, holdsA, nth, Is, Any, List.filter_cons, List.filter_nil, List.map_cons, List.map_nil, Region.binds, if_true, true_and, and_true, Nat.reduceAdd, List.getElem?_cons_zero, List.getElem?_cons_succ, Option.bind_some, Array.getD_eq_getD_getElem?] at hp
      clear hs
      clear hbs
      have h1 := hp
      clear hp
      clear hf
      (try simp only [h1])
      go_simp
      try dsimp only
      refine hK.out _ _ ?_ ?_
      · change Fr [] _ _
        ((repeat (first | (with_reducible exact Fr.refl _ _) | (with_reducible assumption) | (with_reducible refine Fr.drew ?_) | (with_reducible refine Fr.drewN ?_ _) | (with_reducible refine Fr.alloc ?_ _) | (with_reducible refine Fr.setL ?_ _ _ _ ?_) | (focus (refine Or.inl ?_; simp; done)) | (focus (refine Or.inr ?_; simp; done)) | (focus (refine Or.inr ?_; simp; omega)) | (focus (refine Or.inr ?_; omega)))); done)
      · simp only [nth]
        first | (unfold Is; rfl) | (unfold Any; exact trivial) | exact IsSl.new _ _ _ _ | assumption
    · intro ac wx hf hbs hs hp K hK
      simp only [waits, holdsA, nth, Is, Any, List.filter_cons, List.filter_nil, List.map_cons, List.map_nil, Region.binds, if_true, true_and, and_true, Nat.reduceAdd, List.getElem?_cons_zero, List.getElem?_cons_succ, Option.bind_some, Array.getD_eq_getD_getElem?] at hp
      clear hs
      clear hbs
      have h2 := hp
      clear hp
      clear hf
      (try simp only [h2])
      go_simp
      try dsimp only
      refine hK.out _ _ ?_ ?_
      · change Fr [] _ _
        ((repeat (first | (with_reducible exact Fr.refl _ _) | (with_reducible assumption) | (with_reducible refine Fr.drew ?_) | (with_reducible refine Fr.drewN ?_ _) | (with_reducible refine Fr.alloc ?_ _) | (with_reducible refine Fr.setL ?_ _ _ _ ?_) | (focus (refine Or.inl ?_; simp; done)) | (focus (refine Or.inr ?_; simp; done)) | (focus (refine Or.inr ?_; simp; omega)) | (focus (refine Or.inr ?_; omega)))); done)
      · simp only [nth]
        first | (unfold Is; rfl) | (unfold Any; exact trivial) | exact IsSl.new _ _ _ _ | assumption
    · intro ac wx hf hbs hs hp K hK
      simp only [waits, holdsA, nth, Is, Any, List.filter_cons, List.filter_nil, List.map_cons, List.map_nil, Region.binds, if_true, true_and, and_true, Nat.reduceAdd, List.getElem?_cons_zero, List.getElem?_cons_succ, Option.bind_some, Array.getD_eq_getD_getElem?] at hp
      clear hs
      clear hbs
      have h3 := hp
      clear hp
      clear hf
      (try simp only [h3])
      go_simp
      try dsimp only
      refine hK.out _ _ ?_ ?_
      · change Fr [] _ _
        ((repeat (first | (with_reducible exact Fr.refl _ _) | (with_reducible assumption) | (with_reducible refine Fr.drew ?_) | (with_reducible refine Fr.drewN ?_ _) | (with_reducible refine Fr.alloc ?_ _) | (with_reducible refine Fr.setL ?_ _ _ _ ?_) | (focus (refine Or.inl ?_; simp; done)) | (focus (refine Or.inr ?_; simp; done)) | (focus (refine Or.inr ?_; simp; omega)) | (focus (refine Or.inr ?_; omega)))); done)
      · simp only [nth]
        first | (unfold Is; rfl) | (unfold Any; exact trivial) | exact IsSl.new _ _ _ _ | assumption
    · intro ac wx hf hbs hs hp K hK
      simp only [waits, holdsA, nth, Is, Any, List.filter_cons, List.filter_nil, List.map_cons, List.map_nil, Region.binds, if_true, true_and, and_true, Nat.reduceAdd, List.getElem?_cons_zero, List.getElem?_cons_succ, Option.bind_some, Array.getD_eq_getD_getElem?] at hp
      clear hs
      have h4 := hp
      clear hp
      have hb0 := hbs (by kernel_rfl)
      have cx := k32 wx hf
      clear hf hbs
      (try simp only [h4])
      go_simp
      refine hK.out _ _ ?_ ?_
      · change Fr [] _ _
        exact Fr.refl _ _
      · simp only [nth]
        exact ⟨rfl, hb0⟩
    · intro ac wx hf hbs hs hp K hK
      simp only [waits, holdsA, nth, Is, Any, List.filter_cons, List.filter_nil, List.map_cons, List.map_nil, Region.binds, if_true, true_and, and_true, Nat.reduceAdd, List.getElem?_cons_zero, List.getElem?_cons_succ, Option.bind_some, Array.getD_eq_getD_getElem?] at hp
      have hs0 := hs 0 (by kernel_rfl)
      simp only [Array.getD_eq_getD_getElem?, List.getElem?_toArray, List.getElem?_cons_succ, List.getElem?_cons_zero, Option.getD_some] at hs0
      clear hs
      clear hbs
      clear hp
      clear hf
      go_simp
      try dsimp only
      refine hK.out _ _ ?_ ?_
      · change Fr [] _ _
        ((repeat (first | (with_reducible exact Fr.refl _ _) | (with_reducible assumption) | (with_reducible refine Fr.drew ?_) | (with_reducible refine Fr.drewN ?_ _) | (with_reducible refine Fr.alloc ?_ _) | (with_reducible refine Fr.setL ?_ _ _ _ ?_) | (focus (refine Or.inl ?_; simp; done)) | (focus (refine Or.inr ?_; simp; done)) | (focus (refine Or.inr ?_; simp; omega)) | (focus (refine Or.inr ?_; omega)))); done)
      · simp only [nth]
        first | (unfold Is; rfl) | (unfold Any; exact trivial) | exact IsSl.new _ _ _ _ | assumption
    · intro ac wx hf hbs hs hp K hK
      simp only [waits, holdsA, nth, Is, Any, List.filter_cons, List.filter_nil, List.map_cons, List.map_nil, Region.binds, if_true, true_and, and_true, Nat.reduceAdd, List.getElem?_cons_zero, List.getElem?_cons_succ, Option.bind_some, Array.getD_eq_getD_getElem?] at hp
      clear hs
      clear hbs
      have h6 := hp
      clear hp
      clear hf
      (try simp only [h6])
      go_simp
      try dsimp only
      refine hK.out _ _ ?_ ?_
      · change Fr [] _ _
        ((repeat (first | (with_reducible exact Fr.refl _ _) | (with_reducible assumption) | (with_reducible refine Fr.drew ?_) | (with_reducible refine Fr.drewN ?_ _) | (with_reducible refine Fr.alloc ?_ _) | (with_reducible refine Fr.setL ?_ _ _ _ ?_) | (focus (refine Or.inl ?_; simp; done)) | (focus (refine Or.inr ?_; simp; done)) | (focus (refine Or.inr ?_; simp; omega)) | (focus (refine Or.inr ?_; omega)))); done)
      · simp only [nth]
        first | (unfold Is; rfl) | (unfold Any; exact trivial) | exact IsSl.new _ _ _ _ | assumption
    · intro ac wx hf hbs hs hp K hK
      simp only [waits, holdsA, nth, Is, Any, List.filter_cons, List.filter_nil, List.map_cons, List.map_nil, Region.binds, if_true, true_and, and_true, Nat.reduceAdd, List.getElem?_cons_zero, List.getElem?_cons_succ, Option.bind_some, Array.getD_eq_getD_getElem?] at hp
      clear hs
      clear hbs
      have h7 := hp
      clear hp
      clear hf
      (try simp only [h7])
      go_simp
      try dsimp only
      refine hK.out _ _ ?_ ?_
      · change Fr [] _ _
        ((repeat (first | (with_reducible exact Fr.refl _ _) | (with_reducible assumption) | (with_reducible refine Fr.drew ?_) | (with_reducible refine Fr.drewN ?_ _) | (with_reducible refine Fr.alloc ?_ _) | (with_reducible refine Fr.setL ?_ _ _ _ ?_) | (focus (refine Or.inl ?_; simp; done)) | (focus (refine Or.inr ?_; simp; done)) | (focus (refine Or.inr ?_; simp; omega)) | (focus (refine Or.inr ?_; omega)))); done)
      · simp only [nth]
        first | (unfold Is; rfl) | (unfold Any; exact trivial) | exact IsSl.new _ _ _ _ | assumption
    · intro ac wx hf hbs hs hp K hK
      simp only [waits, holdsA, nth, Is, Any, List.filter_cons, List.filter_nil, List.map_cons, List.map_nil, Region.binds, if_true, true_and, and_true, Nat.reduceAdd, List.getElem?_cons_zero, List.getElem?_cons_succ, Option.bind_some, Array.getD_eq_getD_getElem?] at hp
      clear hs
      clear hbs
      have h8 := hp
      clear hp
      have cx := k34 wx hf
      clear hf
      (try simp only [h8])
      go_simp
      try dsimp only
      refine hK.out _ _ ?_ ?_
      · change Fr [] _ _
        ((repeat (first | (with_reducible exact Fr.refl _ _) | (with_reducible assumption) | (with_reducible refine Fr.drew ?_) | (with_reducible refine Fr.drewN ?_ _) | (with_reducible refine Fr.alloc ?_ _) | (with_reducible refine Fr.setL ?_ _ _ _ ?_) | (focus (refine Or.inl ?_; simp; done)) | (focus (refine Or.inr ?_; simp; done)) | (focus (refine Or.inr ?_; simp; omega)) | (focus (refine Or.inr ?_; omega)))); done)
      · simp only [nth]
        first | (unfold Is; rfl) | (unfold Any; exact trivial) | exact IsSl.new _ _ _ _ | assumption
    · intro ac wx hf hbs hs hp K hK
      simp only [waits, holdsA, nth, Is, Any, List.filter_cons, List.filter_nil, List.map_cons, List.map_nil, Region.binds, if_true, true_and, and_true, Nat.reduceAdd, List.getElem?_cons_zero, List.getElem?_cons_succ, Option.bind_some, Array.getD_eq_getD_getElem?] at hp
      clear hs
      clear hbs
      have h9 := hp
      clear hp
      clear hf
      (try simp only [h9])
      go_simp
      try dsimp only
      refine hK.out _ _ ?_ ?_
      · change Fr [] _ _
        ((repeat (first | (with_reducible exact Fr.refl _ _) | (with_reducible assumption) | (with_reducible refine Fr.drew ?_) | (with_reducible refine Fr.drewN ?_ _) | (with_reducible refine Fr.alloc ?_ _) | (with_reducible refine Fr.setL ?_ _ _ _ ?_) | (focus (refine Or.inl ?_; simp; done)) | (focus (refine Or.inr ?_; simp; done)) | (focus (refine Or.inr ?_; simp; omega)) | (focus (refine Or.inr ?_; omega)))); done)
      · simp only [nth]
        first | (unfold Is; rfl) | (unfold Any; exact trivial) | exact IsSl.new _ _ _ _ | assumption
    · intro ac wx hf hbs hs hp K hK
      simp only [waits, holdsA, nth, Is, Any, List.filter_cons, List.filter_nil, List.map_cons, List.map_nil, Region.binds, if_true, true_and, and_true, Nat.reduceAdd, List.getElem?_cons_zero, List.getElem?_cons_succ, Option.bind_some, Array.getD_eq_getD_getElem?] at hp
      clear hs
      clear hbs
      have h10 := hp
      clear hp
      clear hf
      (try simp only [h10])
      go_simp
      try dsimp only
      refine hK.out _ _ ?_ ?_
      · change Fr [] _ _
        ((repeat (first | (with_reducible exact Fr.refl _ _) | (with_reducible assumption) | (with_reducible refine Fr.drew ?_) | (with_reducible refine Fr.drewN ?_ _) | (with_reducible refine Fr.alloc ?_ _) | (with_reducible refine Fr.setL ?_ _ _ _ ?_) | (focus (refine Or.inl ?_; simp; done)) | (focus (refine Or.inr ?_; simp; done)) | (focus (refine Or.inr ?_; simp; omega)) | (focus (refine Or.inr ?_; omega)))); done)
      · simp only [nth]
        first | (unfold Is; rfl) | (unfold Any; exact trivial) | exact IsSl.new _ _ _ _ | assumption
    · intro ac wx hf hbs hs hp K hK
      simp only [waits, holdsA, nth, Is, Any, List.filter_cons, List.filter_nil, List.map_cons, List.map_nil, Region.binds, if_true, true_and, and_true, Nat.reduceAdd, List.getElem?_cons_zero, List.getElem?_cons_succ, Option.bind_some, Array.getD_eq_getD_getElem?] at hp
      clear hs
      clear hbs
      have h11 := hp
      clear hp
      have cx := k8 wx hf
      clear hf
      (try simp only [h11])
      go_simp
      try dsimp only
      refine hK.out _ _ ?_ ?_
      · change Fr [] _ _
        ((repeat (first | (with_reducible exact Fr.refl _ _) | (with_reducible assumption) | (with_reducible refine Fr.drew ?_) | (with_reducible refine Fr.drewN ?_ _) | (with_reducible refine Fr.alloc ?_ _) | (with_reducible refine Fr.setL ?_ _ _ _ ?_) | (focus (refine Or.inl ?_; simp; done)) | (focus (refine Or.inr ?_; simp; done)) | (focus (refine Or.inr ?_; simp; omega)) | (focus (refine Or.inr ?_; omega)))); done)
      · simp only [nth]
        first | (unfold Is; rfl) | (unfold Any; exact trivial) | exact IsSl.new _ _ _ _ | assumption
    · intro ac wx hf hbs hs hp K hK
      simp only [waits, holdsA, nth, Is, Any, List.filter_cons, List.filter_nil, List.map_cons, List.map_nil, Region.binds, if_true, true_and, and_true, Nat.reduceAdd, List.getElem?_cons_zero, List.getElem?_cons_succ, Option.bind_some, Array.getD_eq_getD_getElem?] at hp
      clear hs
      have h12 := hp
      clear hp
      (try simp only [h12])
      go_simp
      go_at_call 96
      refine (b_Clone _ s d.info (HS.out wx hf).1 hl).mono ?_
      rintro e w' ⟨sb, rfl, hbs2, fz⟩
      refine hK.out _ _ ?_ ?_
      · change Fr [] _ _
        exact fz
      · simp only [nth]
        exact ⟨sb, rfl, hbs2⟩
    · intro ac wx hf hbs hs hp K hK
      simp only [waits, holdsA, nth, Is, Any, List.filter_cons, List.filter_nil, List.map_cons, List.map_nil, Region.binds, if_true, true_and, and_true, Nat.reduceAdd, List.getElem?_cons_zero, List.getElem?_cons_succ, Option.bind_some, Array.getD_eq_getD_getElem?] at hp
      clear hs
      clear hbs
      have h13 := hp
      clear hp
      obtain ⟨sb, e13, hb13⟩ := h13
      clear hf
      (try simp only [e13])
      go_simp
      refine hK.out _ _ ?_ ?_
      · change Fr [] _ _
        exact (Fr.refl _ _).alloc _
      · simp only [nth]
        exact ⟨sb, Src.one, hb13.fr ((Fr.refl _ _).alloc _)⟩
    · intro ac wx hf hbs hs hp K hK
      simp only [waits, holdsA, nth, Is, Any, List.filter_cons, List.filter_nil, List.map_cons, List.map_nil, Region.binds, if_true, true_and, and_true, Nat.reduceAdd, List.getElem?_cons_zero, List.getElem?_cons_succ, Option.bind_some, Array.getD_eq_getD_getElem?] at hp
      clear hs
      clear hbs
      obtain ⟨h5, h14, h13⟩ := hp
      obtain ⟨e5, hr5⟩ := h5
      obtain ⟨sb, hs14, hb14⟩ := h14
      have hsz := hf.size
      obtain ⟨xs, ho5, hx2, hx3⟩ := id hr5
      have hLt := HLT.out
      refine Eq.mpr (if_pos (by rfl)) ?_
      refine wp_push (.tmp 12) (.tmp 21) 34 rfl 49 i0 (.slice none 0 0) 1 24 hun hi0 hz0 hz1 hz2 rfl (by decide) v.ok m.took.length xs.flatten ((eval_tmp _ _).trans e5) ho5 _ 1 _ (eval_tmp _ _) hs14 rfl (by intro u hu; simp at hu; subst hu; rfl) (by unfold maxLen; omega) (by omega) ?_
      intro s' w' hp'
      refine hK.out _ _ ?_ ?_
      · exact ⟨v.ok.blk, hp'.2.1, fun x hx => .inl hx⟩
      · simp only [nth]
        exact ⟨s', rfl, BRow.push hx2 hx3 hp' (BRow.off hr5) hb14, fun x hx => (hp'.2.2 x hx).imp id (fun h => Nat.le_trans hsz h)⟩
  case hD =>
    intro xv wx hf hp
    simp only [List.take_succ_cons, List.take_zero, List.drop_succ_cons, List.drop_zero, fill, List.setIfInBounds_toArray, List.set_cons_zero, List.set_cons_succ, Nat.reduceAdd, Act.put]
    rw [show live 16 (deadC [none, none, none, none, none, some 15, none, none, none, none, none, none, none, some 15, some 15, some 16]) = [0, 1, 2, 3, 4, 6, 7, 8, 9, 10, 11, 12, 15] from by decide] at hp
    simp only [holds, nth, Is, Any, true_and, and_true] at hp
    obtain ⟨p0, p1, p2, p3, p4, p6, p7, p8, p9, p10, p11, p12, p15⟩ := hp
    obtain ⟨s', e15, hrow, hnew⟩ := p15
    have htb : Blk wx v.t (m.cells v) 105 := HT.out.blk.ofTy hf (by obtain ⟨_, hok⟩ := HT.out.ok.own; exact TyOut.own hok (by decide))
    have c32' : wx.cell? ⟨v.t, 32, none⟩ = some (.slice v.ok.A v.ok.n v.ok.c) := htb.cell 32 rfl
    have z32 := htb.free 32
    have hto := HT.out.setOk hrow hf hnew
    simp only [p0, e15]
    have HTO := Lib.hid hto
    clear hrow htb hto hf hnew e15 k32 k34 k8 p0 p1 p2 p3 p4 p6 p7 p8 p9 p10 p11 p12
    go_wp2_with fail
    obtain ⟨v2, hh2, et, ef, f2, n2⟩ := HTO.out
    have hV := vars_Took v2.t (TM.cells { m with took := m.took ++ [d.info] } v2) m.vs m.vr m.va _ hh2.v3
    rw [et] at hV
    refine hV.mono ?_
    rintro e w4 ⟨rfl, hv, f4⟩
    have f4 : Fr [v2.t] (wx.setCell ⟨v.t, 32, none⟩ (.slice s'.A s'.n s'.c)) w4 := by rw [et]; exact f4
    rw [← et] at hv
    have h4 : IsTie w4 v2 { m with took := m.took ++ [d.info], vr := (m.vr + 1) % 128 } := hh2.upd f4 hv.2 rfl
    have HFIN := Lib.hid (TieTo.trans f2 n2 et ef (h4.toT f4))
    clear hh2 h4 hv f4 f2 n2 hV c32' z32
    go_wp2
    go_end0
    exact ⟨rfl, HFIN.out⟩
end Go.Proofs.YtneggoonlmmjeaaGreat
namespace Go.Proofs.YtneggoonlmmjeaaGreat
open Go.RowKit
set_option linter.unusedVariables false
set_option linter.unusedSimpArgs false
set_option maxRecDepth 100000

def pick1 : Option Oper → List Oper → List Oper
  | none, l => l
  | some o, l => o :: l
def pickL (ops : Array Oper) : List Nat → List Oper
  | [] => []
  | k :: ks => pick1 ops[k]? (pickL ops ks)
/-- The walk: reads, or one write. -/
def wpMixP (P : Program) (ops : Array Oper) (S : World → Prop) (Q : Act → World → Prop) : List (List Nat × Option Nat) → Act → World → Prop
  | [], a, w => Q a w
  | (ks, none) :: r, a, w => wpQuiet P ops S (fun a' => wpMixP P ops S Q r a' w) (pickL ops ks) a
  | (ks, some k) :: r, a, w => wpQuiet P ops S (fun a' => wpList P ops (loudPost S fun a' w' => wpMixP P ops S Q r a' w') (pickL ops [k]) a' w) (pickL ops ks) a
def quietP (md : Region.Mode) (ops : Array Oper) : List Nat → Array Bool → Bool
  | [], _ => true
  | k :: ks, listed => (Region.ready md ops listed).contains k && Region.free md ops listed k && ((ops[k]?).map fun o => tells o.op).getD false && quietP md ops ks (listed.setIfInBounds k true)
def markedP : List Nat → Array Bool → Array Bool
  | [], listed => listed
  | k :: ks, listed => markedP ks (listed.setIfInBounds k true)
def mixP (md : Region.Mode) (ops : Array Oper) : List (List Nat × Option Nat) → Array Bool → Bool
  | [], listed => (Region.ready md ops listed).isEmpty
  | (ks, none) :: r, listed => quietP md ops ks listed && mixP md ops r (markedP ks listed)
  | (ks, some k) :: r, listed => quietP md ops ks listed && decide (Region.ready md ops (markedP ks listed) = [k]) && mixP md ops r ((markedP ks listed).setIfInBounds k true)
def countP : List (List Nat × Option Nat) → Nat
  | [] => 0
  | (ks, none) :: r => ks.length + countP r
  | (ks, some _) :: r => ks.length + (countP r + 1)

theorem anyH_quietP {P : Program} {md : Region.Mode} {ops : Array Oper} {Q : Exit → Act → World → Prop} {S : World → Prop} {w : World} (hsel : Region.noSelect ops = true) (hQ : ∀ c a w, ¬ Q (.panic c) a w) (hS : S w)
    {K : Act → Prop} {f : Nat} : ∀ (ks : List Nat) (listed : Array Bool) (a : Act), quietP md ops ks listed = true →
      (∀ a', K a' → wpAnyH P md ops Q S f (markedP ks listed) a' w) → wpQuiet P ops S K (pickL ops ks) a → wpAnyH P md ops Q S (ks.length + f) listed a w
  | [], listed, a, _, hK, h => by rw [List.length_nil, Nat.zero_add]; exact hK a h
  | k :: ks, listed, a, hB, hK, h => by
    simp only [quietP, Bool.and_eq_true] at hB
    obtain ⟨⟨⟨hr, hf⟩, ht⟩, hB'⟩ := hB
    cases h0 : ops[k]? with
    | none => rw [h0] at ht; simp at ht
    | some o =>
      rw [h0] at ht
      simp only [Option.map_some, Option.getD_some] at ht
      have hp : pickL ops (k :: ks) = o :: pickL ops ks := by simp [pickL, pick1, h0]
      rw [hp] at h
      obtain ⟨v, hy, hK'⟩ := yieldsIf_of_quiet (K := wpQuiet P ops S K (pickL ops ks)) ht h
      rw [List.length_cons, show ks.length + 1 + f = (ks.length + f) + 1 by omega]
      refine wpAnyH_take h0 hsel hf hr (fun c a w h => absurd h (hQ _ _ _)) hy hS ?_
      exact anyH_quietP hsel hQ hS ks _ _ hB' (fun a' h' => hK a' h') hK'

theorem anyH_mixP {P : Program} {md : Region.Mode} {ops : Array Oper} {Q : Exit → Act → World → Prop} {S : World → Prop} (hsel : Region.noSelect ops = true) (hQ : ∀ c a w, ¬ Q (.panic c) a w) :
    ∀ (r : List (List Nat × Option Nat)) (listed : Array Bool) (a : Act) (w : World), S w → mixP md ops r listed = true →
      wpMixP P ops S (Q .normal) r a w → wpAnyH P md ops Q S (countP r) listed a w
  | [], listed, a, w, hS, hB, h => by
    simp only [mixP] at hB
    exact wpAnyH_done (by simpa using hB) h _
  | (ks, none) :: r, listed, a, w, hS, hB, h => by
    simp only [mixP, Bool.and_eq_true] at hB
    simp only [wpMixP] at h
    exact anyH_quietP hsel hQ hS ks listed a hB.1 (fun a' h' => anyH_mixP hsel hQ r _ a' w hS hB.2 h') h
  | (ks, some k) :: r, listed, a, w, hS, hB, h => by
    simp only [mixP, Bool.and_eq_true, decide_eq_true_eq] at hB
    simp only [wpMixP] at h
    refine anyH_quietP hsel hQ hS ks listed a hB.1.1 (fun a' h' => ?_) h
    have h2 : k ∈ Region.ready md ops (markedP ks listed) := by rw [hB.1.2]; simp
    obtain ⟨_, o, h0, _⟩ := mem_ready.1 h2
    have hp : pickL ops [k] = [o] := by simp [pickL, pick1, h0]
    rw [hp] at h'
    refine wpAnyH_all hB.1.2 (by simp) fun i hi => ?_
    have hik : i = k := by simpa using hi
    subst hik
    have hw : wpOp P ops (loudPost S fun a' w' => wpMixP P ops S (Q .normal) r a' w') i (fun a' w' => S w' ∧ wpMixP P ops S (Q .normal) r a' w') a' w := by
      unfold wpOp; simp only [h0]; exact h'
    unfold wpOp at hw ⊢
    simp only [h0] at hw ⊢
    by_cases hwn : Region.wanted o (yielded ops a'.tmps) = true
    · simp only [hwn, if_true] at hw ⊢
      rcases hw with h1 | h1
      · exact .inl (wp_shut (fun a' w' h' => ⟨h'.1, anyH_mixP hsel hQ r _ a' w' h'.1 hB.2 h'.2⟩) (fun _ _ _ h => h) (fun ⟨_, _, h⟩ => h) h1)
      · exact absurd h1.2 (fun ⟨_, _, h⟩ => h)
    · simp only [hwn, Bool.false_eq_true, if_false] at hw ⊢
      exact ⟨hw.1, anyH_mixP hsel hQ r _ _ w hw.1 hB.2 hw.2⟩

theorem wpAny_mixP {P : Program} {Q : Exit → Act → World → Prop} {S : World → Prop} {l : List Oper} {a : Act} {w : World} (r : List (List Nat × Option Nat)) (hsel : Region.noSelect l.toArray = true) (hc : countP r = l.toArray.size) (hB : mixP .any l.toArray r (Array.replicate l.toArray.size false) = true) (hS : S w)
    (h : wpMixP P l.toArray S (Q .normal) r a w) : wpAny P .any l.toArray (goesOn Q) l.toArray.size (Array.replicate l.toArray.size false) a w := by
  have := anyH_mixP (P := P) (md := .any) (ops := l.toArray) (Q := goesOn Q) (S := S) hsel (fun _ _ _ h => h) r (Array.replicate l.toArray.size false) a w hS hB h
  rw [hc] at this
  exact wpAny_of_held _ _ _ _ this

/-- **A region that draws its order, in the plain calculus: the order of one's choice.** -/
theorem wp_region_mixP {P : Program} {id : Nat} {Q : Exit → Act → World → Prop} {a : Act} {w : World} {l : List Oper} (S : World → Prop) (r : List (List Nat × Option Nat)) (hm : P.follows .mixedOrders = true) (hsel : Region.noSelect l.toArray = true) (hc : countP r = l.toArray.size)
    (hB : mixP .any l.toArray r (Array.replicate l.toArray.size false) = true) (hS : S w.drew)
    (h : wpMixP P l.toArray S (Q .normal) r a w.drew) : (Code.region id l.toArray true).wp P Q a w :=
  Code.wp_mono goesOn_imp (wp_region_any hm (wpAny_mixP r hsel hc hB hS h))
end Go.Proofs.YtneggoonlmmjeaaGreat
namespace Go.Proofs.YtneggoonlmmjeaaGreat
open Go.RowKit Go.Shelf
set_option linter.unusedVariables false
set_option linter.unusedSimpArgs false
set_option maxRecDepth 100000

/-- The way from one state of a connection to another one. -/
structure Went (w w' : World) (v v' : TV) : Prop where
  t : v'.t = v.t
  fix : v'.fix = v.fix
  fr : Fr v.foot w w'
  new : ∀ x ∈ v'.foot, x ∈ v.foot ∨ w.heap.size ≤ x
theorem Went.refl (w : World) (v : TV) : Went w w v v := ⟨rfl, rfl, Fr.refl _ _, fun _ hx => .inl hx⟩
theorem Went.of {w w' : World} {v : TV} (f : Fr v.foot w w') : Went w w' v v := ⟨rfl, rfl, f, fun _ hx => .inl hx⟩
theorem Went.fr0 {w w1 w2 : World} {v v1 : TV} (h : Went w w1 v v1) (f : Fr [] w1 w2) : Went w w2 v v1 := ⟨h.t, h.fix, h.fr.tr0 f, h.new⟩
theorem Went.trans {w w1 w2 : World} {v v1 v2 : TV} (h : Went w w1 v v1) (k : Went w1 w2 v1 v2) : Went w w2 v v2 :=
  ⟨k.t.trans h.t, k.fix.trans h.fix, h.fr.trans k.fr h.new, fun x hx => by
    rcases k.new x hx with h1 | h1
    · exact h.new x h1
    · exact .inr (Nat.le_trans h.fr.size h1)⟩
theorem Went.step {w w1 w2 : World} {v v1 : TV} {m : TM} (h : Went w w1 v v1) (k : TieTo w1 w2 v1 m) : ∃ v2, IsTie w2 v2 m ∧ Went w w2 v v2 := by
  obtain ⟨v2, h2, et, ef, f, n⟩ := k
  exact ⟨v2, h2, h.trans ⟨et, ef, f, n⟩⟩
theorem Went.to {w w' : World} {v v' : TV} {m : TM} (h : Went w w' v v') (k : IsTie w' v' m) : TieTo w w' v m := ⟨v', k, h.t, h.fix, h.fr, h.new⟩
theorem TieTo.went {w w' : World} {v : TV} {m : TM} (h : TieTo w w' v m) : ∃ v', IsTie w' v' m ∧ Went w w' v v' := (Went.refl w v).step h
theorem Went.same {w w1 w2 : World} {v v1 : TV} (h : Went w w1 v v1) (f : Fr v1.foot w1 w2) : Went w w2 v v1 := h.trans (Went.of f)
theorem Went.own {w w1 w2 : World} {v v1 : TV} (h : Went w w1 v v1) (f : Fr [v1.t] w1 w2) : Went w w2 v v1 := h.same f.foot

theorem TV.fix_pp {v v1 : TV} (h : v1.fix = v.fix) : v1.pp = v.pp := by simp only [TV.fix, Prod.mk.injEq] at h; exact h.1
theorem TV.fix_k {v v1 : TV} (h : v1.fix = v.fix) : v1.k = v.k := by simp only [TV.fix, Prod.mk.injEq] at h; exact h.2.1
theorem TV.fix_w {v v1 : TV} (h : v1.fix = v.fix) : v1.w = v.w := by simp only [TV.fix, Prod.mk.injEq] at h; exact h.2.2.2.1
theorem TV.fix_n0 {v v1 : TV} (h : v1.fix = v.fix) : v1.n0 = v.n0 := by simp only [TV.fix, Prod.mk.injEq] at h; exact h.2.2.2.2.2.2.2.1

set_option maxHeartbeats 1000000 in
theorem tie_clearA (w : World) (v : TV) (m : TM) (h : IsTie w v m) (hq : m.q.length ≤ 1000) (he : 0 ≤ m.epoch ∧ m.epoch ≤ 1000000) :
    Calls Tryz.prog 150 #[.pointer (some ⟨v.t, 0, none⟩)] w fun e w' => e = .returned (.tuple #[]) ∧ TieTo w w' v (clearM m) := by
  have hw : IntKind.i64.wrap (m.epoch + 1) = m.epoch + 1 := IntWalk.i64_in _ (by omega)
  go_enter Tryz.func150, Tryz.ntmps150
  go_wp2_with fail
  refine (vars_Clear v.t (m.cells v) m.vs m.vr m.va w h.v3).mono ?_
  rintro e w1 ⟨rfl, hv, f1⟩
  have h1 : IsTie w1 v { m with vs := 0, vr := 0, va := 0 } := h.upd f1 hv.2 rfl
  have W1 : Went w w1 v v := Went.of f1.foot
  have c13 := h1.c13
  clear hv f1 h
  go_wp2_with fail
  refine (back_Clear w1 v.k v.q v.ql 64 m.out m.q h1.back hq).mono ?_
  rintro e w2 ⟨⟨_, rfl⟩, hk⟩
  obtain ⟨v2, h2, W2⟩ := W1.step (h1.setBack (out := 0) hk)
  have c14 := h2.c14
  rw [W2.t] at c14
  clear hk h1 W1 c13
  go_wp2_with fail
  refine (win_Fresh v2.w m.cw m.wide m.count w2 h2.win).mono ?_
  rintro e w3 ⟨rfl, hn, f3⟩
  obtain ⟨h3, g3⟩ := h2.setWin (d := m.cw) (c := 0) hn f3
  have W3 := W2.same g3
  have c19 := h3.c19
  have z19 := h3.z 19
  clear hn f3 g3 h2 W2 c14
  obtain ⟨h4, g4⟩ := h3.set1 19 (.bool false) { m with vs := 0, vr := 0, va := 0, out := 0, q := [], wide := m.cw, count := 0, busy := false } rfl rfl
  have W4 := W3.own g4
  have c20 := h4.c20
  have z20 := h4.z 20
  obtain ⟨h5, g5⟩ := h4.set1 20 (.int .i64 (m.epoch + 1)) (clearM m) rfl rfl
  have W5 := W4.own g5
  have HFIN := Lib.hid (W5.to h5)
  have et := W4.t
  rw [et] at c19 z19 c20 z20 HFIN
  clear h3 h4 h5 g4 g5 W3 W4 W5
  go_wp2
  go_end0
  exact ⟨rfl, HFIN.out⟩

def goBackM (m : TM) : TM := { m with vs := m.va, out := 0, tm := tstop m.tm 29 }
set_option maxHeartbeats 1000000 in
theorem tie_goBack (w : World) (v : TV) (m : TM) (h : IsTie w v m) (hl : m.tm.length ≤ 1000) :
    Calls Tryz.prog 157 #[.pointer (some ⟨v.t, 0, none⟩)] w fun e w' => e = .returned (.tuple #[]) ∧ TieTo w w' v (goBackM m) := by
  go_enter Tryz.func157, Tryz.ntmps157
  go_wp2_with fail
  refine (vars_Back v.t (m.cells v) m.vs m.vr m.va w h.v3).mono ?_
  rintro e w1 ⟨rfl, hv, f1⟩
  have h1 : IsTie w1 v { m with vs := m.va } := h.upd f1 hv.2 rfl
  have W1 : Went w w1 v v := Went.of f1.foot
  have c13 := h1.c13
  clear hv f1 h
  go_wp2_with fail
  refine (back_Again w1 v.k v.q v.ql 64 m.out m.q h1.back).mono ?_
  rintro e w2 ⟨rfl, hk, f2⟩
  obtain ⟨h2, g2⟩ := h1.setBack1 (out := 0) hk f2
  have W2 := W1.same g2
  have c15 := h2.c15
  clear hk h1 W1 c13 f2 g2
  go_wp2_with fail
  refine (clk_Stop _ v.c v.cl 4 v.now m.tm 29 h2.clk hl).mono ?_
  rintro e w3 ⟨rfl, hc⟩
  obtain ⟨v3, h3, W3⟩ := W2.step (h2.setClk hc)
  have HFIN := Lib.hid (W3.to h3)
  clear h3 W3 W2 h2 hc c15
  go_wp2
  go_end0
  exact ⟨rfl, HFIN.out⟩
end Go.Proofs.YtneggoonlmmjeaaGreat
namespace Go.Proofs.YtneggoonlmmjeaaGreat
open Go.RowKit Go.Shelf
set_option linter.unusedVariables false
set_option linter.unusedSimpArgs false
set_option maxRecDepth 100000

/-- What is acknowledged, by how many. -/
def ackedM (m : TM) (nr : Int) (n : Nat) : TM := { m with va := nr, out := m.out - n, q := m.q.drop n, wide := (ackedW m.cw n m.wide m.count).d, count := (ackedW m.cw n m.wide m.count).c, retries := 0, tm := tstop m.tm 29 }
def ackM (m : TM) : TM := match m.p with
  | none => m
  | some d => if ackN m.vs m.va d.nr < 1 then { m with va := ackA m.vs m.va d.nr } else
    if 0 < (m.vs - d.nr) % 128 then startM (ackedM m d.nr (ackN m.vs m.va d.nr).toNat) 29 else ackedM m d.nr (ackN m.vs m.va d.nr).toNat
/-- What is so ahead of it. -/
def ackP (m : TM) : Prop := m.tm.length ≤ 1000 ∧ m.q.length ≤ 1000 ∧ m.out ≤ m.q.length ∧ (m.out : Int) = (m.vs - m.va) % 128 ∧ m.cw ≤ 64 ∧ 0 ≤ m.wide ∧ 0 ≤ m.count ∧ m.count ≤ 64 ∧ 1 ≤ m.ca ∧ m.ca ≤ 10000 ∧ (tstop m.tm 29).length < 4

def PNr (t b : Nat) (nr : Int) (x : World) : Prop := x.cell? ⟨t, 34, none⟩ = some (.pointer (some ⟨b, 0, none⟩)) ∧ x.cell? ⟨b, 6, none⟩ = some (.int .i64 nr)
set_option maxHeartbeats 1000000 in
theorem tie_ack (w : World) (v : TV) (m : TM) (d : PD) (h : IsTie w v m) (hp : m.p = some d) (hk : ackP m) :
    Calls Tryz.prog 155 #[.pointer (some ⟨v.t, 0, none⟩)] w fun e w' => e = .returned (.tuple #[]) ∧ TieTo w w' v (ackM m) := by
  have hd := h.hd
  rw [hp] at hd
  obtain ⟨b, s, epp, hb, hs, hbo⟩ := hd
  have c34 := h.c34
  rw [epp] at c34
  have c6 := hb.cell 6 rfl
  simp only [PD.arr, List.getElem_toArray, List.getElem_cons_zero, List.getElem_cons_succ] at c6
  have eM : ackM m = if ackN m.vs m.va d.nr < 1 then { m with va := ackA m.vs m.va d.nr } else
    if 0 < (m.vs - d.nr) % 128 then startM (ackedM m d.nr (ackN m.vs m.va d.nr).toNat) 29 else ackedM m d.nr (ackN m.vs m.va d.nr).toNat := by unfold ackM; rw [hp]
  obtain ⟨R, hR⟩ : ∃ R, ackM m = R := ⟨_, rfl⟩
  rw [hR]
  rw [hR] at eM
  have HP := Lib.hid hp
  have HK := Lib.hid hk
  obtain ⟨N, hN⟩ : ∃ N, ackN m.vs m.va d.nr = N := ⟨_, rfl⟩
  have HN := Lib.hid hN
  have fd : Fr [] w w.drew := (Fr.refl [] w).drew
  have hD := h.fr0 fd
  have hV := vars_Acked v.t (m.cells v) m.vs m.vr m.va d.nr w.drew hD.v3
  rw [hN] at hV eM
  have HR := Lib.hid eM
  have hbt : b ≠ v.t := fun e => by
    subst e
    exact absurd (Blk.ty hb h.blk) (by decide)
  have hp0 : PNr v.t b d.nr w.drew := ⟨fd.cell c34 (by simp), fd.cell c6 (by simp)⟩
  haveI : Nonempty (Held (PNr v.t b d.nr)) := ⟨⟨_, hp0⟩⟩
  have q34 : ∀ n : Held (PNr v.t b d.nr), n.x.cell? ⟨v.t, 34, none⟩ = some (.pointer (some ⟨b, 0, none⟩)) := fun n => n.ok.1
  have q6 : ∀ n : Held (PNr v.t b d.nr), n.x.cell? ⟨b, 6, none⟩ = some (.int .i64 d.nr) := fun n => n.ok.2
  have HD := Lib.hid (And.intro hD (And.intro fd (And.intro hbt hp0)))
  clear eM hp hk hb hs hbo epp hN h hD fd hbt hR
  go_enter Tryz.func155, Tryz.ntmps155
  go_wp2_with fail
  refine wp_region_mixP (fun x => ∃ n : Held (PNr v.t b d.nr), x = n.x) [([0, 1, 2, 3, 4, 5, 6, 7, 8, 9], some 10), ([11], none)] (by kernel_rfl) (by kernel_rfl) (by kernel_rfl) (by kernel_rfl) ⟨⟨_, hp0⟩, rfl⟩ ?_
  clear hp0 c34 c6
  simp only [wpMixP, pickL, pick1, List.getElem?_toArray, List.getElem?_cons_zero, List.getElem?_cons_succ]
  repeat (go_big_quiet_step (fail))
  refine wpQuiet_nil ?_
  clear q34 q6
  go_wp2_with fail
  refine hV.mono ?_
  rintro e w1 ⟨rfl, hv, f1⟩
  obtain ⟨hD, fd, hbt, hp0⟩ := HD.out
  have h1 : IsTie w1 v { m with va := ackA m.vs m.va d.nr } := hD.upd f1 hv.2 rfl
  have W1 : Went w w1 v v := ((Went.refl w v).fr0 fd).own f1
  have hp1 : PNr v.t b d.nr w1 := ⟨by have := h1.c34; rw [show v.pp = .pointer (some ⟨b, 0, none⟩) by have := hD.c34.symm.trans hp0.1; simpa using this] at this; exact this, f1.cell hp0.2 (by simpa using hbt)⟩
  have H1 := Lib.hid (And.intro h1 W1)
  clear hD fd hbt hp0 hv h1 W1 HD hV
  go_wp2_with fail
  refine ⟨⟨⟨_, hp1⟩, rfl⟩, ?_⟩
  dsimp only
  repeat (go_big_quiet_step (fail))
  refine wpQuiet_nil ?_
  clear hp1 this f1
  by_cases hN1 : N < 1
  · have d1 : decide (N < 1) = true := by simpa using hN1
    have HFIN := Lib.hid (H1.out.2.to H1.out.1)
    rw [show _ = R from ((if_pos hN1).symm.trans HR.out.symm)] at HFIN
    clear hN1 H1
    go_wp2
    exact bodyPost_ret (results_none rfl _ _ _) rfl ⟨rfl, HFIN.out⟩
  · have d1 : decide (N < 1) = false := by simpa using hN1
    have eR := HR.out
    rw [if_neg hN1] at eR
    obtain ⟨h1, W1⟩ := H1.out
    obtain ⟨k1, k2, k3, k4, k5, k6, k7, k8, k9, k10, k11⟩ := HK.out
    have hNn : N = (m.vs - d.nr) % 128 → True := fun _ => trivial
    obtain ⟨n, hn⟩ : ∃ n : Nat, N = n := ⟨N.toNat, by omega⟩
    have hno : 0 < n ∧ n ≤ m.out ∧ ackA m.vs m.va d.nr = d.nr := by
      have e1 := HN.out
      unfold ackN at e1
      unfold ackA
      split at e1
      · rename_i hc
        rw [if_pos hc]
        omega
      · omega
    obtain ⟨n0, n1, n2⟩ := hno
    rw [n2] at h1
    subst hn
    rw [Int.toNat_natCast] at eR
    have HE := Lib.hid eR
    clear eR HR
    have c13 := h1.c13
    have HKK := Lib.hid (And.intro k2 (And.intro k3 (And.intro k1 (And.intro k9 (And.intro k10 (And.intro k11 (And.intro k5 (And.intro k6 (And.intro k7 k8)))))))))
    clear k1 k2 k3 k4 k5 k6 k7 k8 k9 k10 k11 hN1 H1 HK hNn
    have HNN := Lib.hid (And.intro n0 n1)
    clear n0 n1 n2
    go_wp2_with fail
    refine (back_Acked w1 v.k v.q v.ql 64 m.out n m.q h1.back HNN.out.1 HNN.out.2 HKK.out.2.1 HKK.out.1).mono ?_
    rintro e w2 ⟨rfl, hk⟩
    obtain ⟨v2, h2, W2⟩ := W1.step (h1.setBack hk)
    have c14 := h2.c14
    rw [W2.t] at c14
    clear hk h1 W1 c13
    go_wp2_with fail
    obtain ⟨k2, k3, k1, k9, k10, k11, k5, k6, k7, k8⟩ := HKK.out
    refine (win_Acked v2.w m.cw m.wide m.count n w2 h2.win k5 k6 k7 k8 (by have := HNN.out; omega)).mono ?_
    rintro e w3 ⟨rfl, hw, f3⟩
    obtain ⟨h3, g3⟩ := h2.setWin (d := (ackedW m.cw n m.wide m.count).d) (c := (ackedW m.cw n m.wide m.count).c) hw f3
    have W3 := W2.same g3
    have c18 := h3.c18
    have z18 := h3.z 18
    have et := W3.t
    obtain ⟨h4, g4⟩ := h3.set1 18 (.int .i64 0) { m with va := d.nr, out := m.out - n, q := m.q.drop n, wide := (ackedW m.cw n m.wide m.count).d, count := (ackedW m.cw n m.wide m.count).c, retries := 0 } rfl rfl
    have W4 := W3.own g4
    have c15 := h4.c15
    rw [et] at c18 z18 c15 h4 W4
    clear hw f3 g3 h2 W2 c14 h3 W3 g4 k2 k3 k5 k6 k7 k8 k9 k10 k11
    go_wp2_with fail
    refine (clk_Stop _ v2.c v2.cl 4 v2.now m.tm 29 h4.clk k1).mono ?_
    rintro e w4 ⟨rfl, hc⟩
    obtain ⟨v5, h5, W5⟩ := W4.step (h4.setClk hc)
    clear hc h4 W4 c18 z18 c15
    have h5 : IsTie w4 v5 (ackedM m d.nr n) := h5
    have et5 := W5.t
    have H5 := Lib.hid (And.intro h5 W5)
    have hV := vars_Out v5.t ((ackedM m d.nr n).cells v5) (ackedM m d.nr n).vs (ackedM m d.nr n).vr (ackedM m d.nr n).va w4 h5.v3
    rw [et5] at hV
    clear h5 W5 et et5
    go_wp2_with fail
    refine hV.mono ?_
    rintro e w5 ⟨rfl, f5⟩
    have eV : ((ackedM m d.nr n).vs - (ackedM m d.nr n).va) % 128 = (m.vs - d.nr) % 128 := rfl
    rw [eV]
    obtain ⟨h5, W5⟩ := H5.out
    have h6 := h5.fr0 f5
    have W6 := W5.fr0 f5
    have et6 := W6.t
    clear hV eV h5 W5 H5 f5
    by_cases hpos : 0 < (m.vs - d.nr) % 128
    · have d2 : decide (0 < (m.vs - d.nr) % 128) = true := by simpa using hpos
      have eR := HE.out
      rw [if_pos hpos] at eR
      have HE2 := Lib.hid eR
      have hst := tie_start w5 v5 (ackedM m d.nr n) 29 h6
      rw [et6] at hst
      have H6 := Lib.hid (And.intro h6 W6)
      clear hpos eR HE h6 W6 et6
      go_wp2_with fail
      refine hst.mono ?_
      rintro e w6 ⟨b0, b1, b2, M, rfl, c0, c1, c2, hM, l0, l1, l2, l3, f6⟩
      obtain ⟨h6, W6⟩ := H6.out
      have h7 := h6.fr0 f6
      have W7 := W6.fr0 f6
      have hcl := tie_start1 w6 v5 (ackedM m d.nr n) 29 b0 b1 b2 M h7 (by rw [W6.t]; exact c0) c1 c2 hM (by omega) (by omega) (by have := HKK.out.2.2.2.2.2.1; show (tstop m.tm 29).length ≤ 1000; omega) HKK.out.2.2.2.1 HKK.out.2.2.2.2.1 (fun _ => by have := HKK.out.2.2.2.2.2.1; show ((tstop m.tm 29).length : Int) < 4; omega)
      have HCL := Lib.hid hcl
      have HW := Lib.hid W7
      clear hst H6 h6 W6 h7 W7 hcl hM c0 c1 c2 l0 l1 l2 l3 f6
      go_wp2_with fail
      refine HCL.out.mono ?_
      rintro e w7 ⟨rfl, ht⟩
      obtain ⟨v8, h8, W8⟩ := HW.out.step ht
      have HFIN := Lib.hid (W8.to h8)
      rw [← HE2.out] at HFIN
      clear h8 W8 ht HCL HW
      go_wp2
      go_end0
      exact ⟨rfl, HFIN.out⟩
    · have d2 : decide (0 < (m.vs - d.nr) % 128) = false := by simpa using hpos
      have eR := HE.out
      rw [if_neg hpos] at eR
      have HFIN := Lib.hid (W6.to h6)
      rw [← eR] at HFIN
      clear hpos eR HE h6 W6 et6
      go_wp2
      go_end0
      exact ⟨rfl, HFIN.out⟩
end Go.Proofs.YtneggoonlmmjeaaGreat
namespace Go.Proofs.YtneggoonlmmjeaaGreat
open Go.RowKit Go.Shelf
set_option linter.unusedVariables false
set_option linter.unusedSimpArgs false
set_option maxRecDepth 100000

/-- One goes. -/
def pushD (m : TM) : PD := ⟨0, 0, false, 0, 0, m.vs, m.vr, false, m.q.getD m.out []⟩
def pushS (m : TM) : TM := { sendM m (pushD m) with vs := (m.vs + 1) % 128, out := m.out + 1 }
def mayPush (m : TM) : Prop := m.busy = false ∧ (m.vs - m.va) % 128 < m.wide ∧ m.out < m.q.length
instance (m : TM) : Decidable (mayPush m) := by unfold mayPush; infer_instance
def pushL : Nat → TM → TM
  | 0, m => m
  | k + 1, m => if mayPush m then pushL k (pushS m) else m
def pushM (m : TM) : TM := let m1 := pushL (m.q.length - m.out) m; if 0 < (m1.vs - m1.va) % 128 ∧ tleft m1.tm 29 = 0 then startM m1 29 else m1
/-- What is so ahead of it. -/
structure pushP (m : TM) : Prop where
  tm : m.tm.length ≤ 1000
  q : m.q.length ≤ 1000
  out : m.out ≤ m.q.length
  dist : (m.out : Int) = (m.vs - m.va) % 128
  wide : m.wide ≤ 64
  sdu : ∀ x ∈ m.q, x.length ≤ 100000
  send : m.send.length + (m.q.length - m.out) ≤ 100000
  ca1 : 1 ≤ m.ca
  ca2 : m.ca ≤ 10000
  room : (tstop m.tm 29).length < 4
theorem pushP.step {m : TM} (h : pushP m) (k : mayPush m) : pushP (pushS m) := by
  obtain ⟨k1, k2, k3⟩ := k
  refine ⟨h.tm, h.q, ?_, ?_, h.wide, h.sdu, ?_, h.ca1, h.ca2, h.room⟩
  · show m.out + 1 ≤ m.q.length
    omega
  · show ((m.out + 1 : Nat) : Int) = ((m.vs + 1) % 128 - m.va) % 128
    have := h.dist; have := h.wide
    omega
  · show (m.send ++ [_]).length + (m.q.length - (m.out + 1)) ≤ 100000
    have := h.send
    rw [List.length_append]; simp only [List.length_cons, List.length_nil]
    omega

def outOf : Option Value → Nat
  | some (.int _ n) => n.toNat
  | _ => 0
set_option maxHeartbeats 2000000 in
theorem tie_push (w : World) (v : TV) (m : TM) (h : IsTie w v m) (hp : pushP m) :
    Calls Tryz.prog 160 #[.pointer (some ⟨v.t, 0, none⟩)] w fun e w' => e = .returned (.tuple #[]) ∧ TieTo w w' v (pushM m) := by
  obtain ⟨R, hR⟩ : ∃ R, pushM m = R := ⟨_, rfl⟩
  rw [hR]
  have HR := Lib.hid hR
  have HP := Lib.hid hp
  have H0 := Lib.hid h
  clear hR hp
  go_enter Tryz.func160, Tryz.ntmps160
  go_wp2
  go_loopw [] (fun wr => ∃ v' m', IsTie wr v' m' ∧ Went w wr v v' ∧ pushP m' ∧ pushL (m'.q.length - m'.out) m' = pushL (m.q.length - m.out) m ∧ m'.q.length = m.q.length) (fun wr => m.q.length - outOf (wr.cell? ⟨v.k, 1, none⟩))
  case atStart => exact ⟨v, m, H0.out, Went.refl _ _, HP.out, rfl, rfl⟩
  case round =>
    obtain ⟨v', m', h', W', hP', eL, eq⟩ := hrel
    have et := W'.t
    have efk := TV.fix_k W'.fix
    have e8 : (if 0 < ((pushL (m'.q.length - m'.out) m').vs - (pushL (m'.q.length - m'.out) m').va) % 128 ∧ tleft (pushL (m'.q.length - m'.out) m').tm 29 = 0 then startM (pushL (m'.q.length - m'.out) m') 29 else pushL (m'.q.length - m'.out) m') = R := by rw [eL]; exact HR.out
    have stop : ¬ mayPush m' → pushL (m'.q.length - m'.out) m' = m' := fun hn => by
      cases m'.q.length - m'.out with
      | zero => rfl
      | succ k => simp only [pushL]; rw [if_neg hn]
    have HN : ¬ mayPush m' → Hid (IsTie wr v' m' ∧ Went w wr v v' ∧ pushP m' ∧ (if 0 < (m'.vs - m'.va) % 128 ∧ tleft m'.tm 29 = 0 then startM m' 29 else m') = R) := fun hn => Lib.hid ⟨h', W', hP', by have := e8; rw [stop hn] at this; exact this⟩
    have k19 : ∀ wx, Fr [] wr wx → wx.cell? ⟨v.t, 19, none⟩ = some (.bool m'.busy) := fun wx hf => by rw [← et]; exact hf.cell h'.c19 (by simp)
    cases hb : m'.busy with
    | true =>
      rw [hb] at k19
      have HN := HN (fun h => by rw [h.1] at hb; cases hb)
      clear h' W' hP' eL eq et efk e8 stop hb
      go_wp2_with fail
      refine wp_region_keepsC [] [false, false, false, false, false, false, false, false, false, false, false, false, false, false, false, false, false] [none, none, none, none, none, none, none, none, none, none, none, none, none, none, none, none, none] (fun _ => True) [Is (.pointer (some ⟨v.t, 0, none⟩)), Is (.pointer (some ⟨v.t, 0, none⟩)), Is (.pointer (some ⟨v.t, 19, none⟩)), Is (.bool true), Is (.bool false), Is (.bool false), Any, Any, Any, Any, Any, Any, Any, Any, Any, Any, Is (.bool false)] 17 (by kernel_rfl) (by kernel_rfl) (by kernel_rfl) (by kernel_rfl) (by kernel_rfl) (by kernel_rfl) (by kernel_rfl) (by kernel_rfl) ?hV (fun _ _ _ h => h) trivial ?hS ?hD
      case hV =>
        repeat (first | exact trivial | exact Is.keepsN _ | exact Any.keepsN | refine And.intro ?_ ?_)
      case hS =>
        (repeat' (first | exact trivial | refine And.intro ?_ ?_))
        · intro ac wx hf hbs hs hp K hK
          simp only [waits, holdsA, nth, Is, Any, List.filter_cons, List.filter_nil, List.map_cons, List.map_nil, Region.binds, if_true, true_and, and_true, Nat.reduceAdd, List.getElem?_cons_zero, List.getElem?_cons_succ, Option.bind_some, Array.getD_eq_getD_getElem?] at hp
          have hs0 := hs 0 (by kernel_rfl)
          simp only [Array.getD_eq_getD_getElem?, List.getElem?_toArray, List.getElem?_cons_succ, List.getElem?_cons_zero, Option.getD_some] at hs0
          clear hs
          clear hbs
          clear hp
          clear hf
          go_simp
          try dsimp only
          refine hK.out _ _ ?_ ?_
          · change Fr [] _ _
            ((repeat (first | (with_reducible exact Fr.refl _ _) | (with_reducible assumption) | (with_reducible refine Fr.drew ?_) | (with_reducible refine Fr.drewN ?_ _) | (with_reducible refine Fr.alloc ?_ _) | (with_reducible refine Fr.setL ?_ _ _ _ ?_) | (focus (refine Or.inl ?_; simp; done)) | (focus (refine Or.inr ?_; simp; done)) | (focus (refine Or.inr ?_; simp; omega)) | (focus (refine Or.inr ?_; omega)))); done)
          · simp only [nth]
            first | (unfold Is; rfl) | (unfold Any; exact trivial) | exact IsSl.new _ _ _ _ | assumption
        · intro ac wx hf hbs hs hp K hK
          simp only [waits, holdsA, nth, Is, Any, List.filter_cons, List.filter_nil, List.map_cons, List.map_nil, Region.binds, if_true, true_and, and_true, Nat.reduceAdd, List.getElem?_cons_zero, List.getElem?_cons_succ, Option.bind_some, Array.getD_eq_getD_getElem?] at hp
          clear hs
          clear hbs
          have h0 := hp
          clear hp
          clear hf
          (try simp only [h0])
          go_simp
          try dsimp only
          refine hK.out _ _ ?_ ?_
          · change Fr [] _ _
            ((repeat (first | (with_reducible exact Fr.refl _ _) | (with_reducible assumption) | (with_reducible refine Fr.drew ?_) | (with_reducible refine Fr.drewN ?_ _) | (with_reducible refine Fr.alloc ?_ _) | (with_reducible refine Fr.setL ?_ _ _ _ ?_) | (focus (refine Or.inl ?_; simp; done)) | (focus (refine Or.inr ?_; simp; done)) | (focus (refine Or.inr ?_; simp; omega)) | (focus (refine Or.inr ?_; omega)))); done)
          · simp only [nth]
            first | (unfold Is; rfl) | (unfold Any; exact trivial) | exact IsSl.new _ _ _ _ | assumption
        · intro ac wx hf hbs hs hp K hK
          simp only [waits, holdsA, nth, Is, Any, List.filter_cons, List.filter_nil, List.map_cons, List.map_nil, Region.binds, if_true, true_and, and_true, Nat.reduceAdd, List.getElem?_cons_zero, List.getElem?_cons_succ, Option.bind_some, Array.getD_eq_getD_getElem?] at hp
          clear hs
          clear hbs
          have h1 := hp
          clear hp
          clear hf
          (try simp only [h1])
          go_simp
          try dsimp only
          refine hK.out _ _ ?_ ?_
          · change Fr [] _ _
            ((repeat (first | (with_reducible exact Fr.refl _ _) | (with_reducible assumption) | (with_reducible refine Fr.drew ?_) | (with_reducible refine Fr.drewN ?_ _) | (with_reducible refine Fr.alloc ?_ _) | (with_reducible refine Fr.setL ?_ _ _ _ ?_) | (focus (refine Or.inl ?_; simp; done)) | (focus (refine Or.inr ?_; simp; done)) | (focus (refine Or.inr ?_; simp; omega)) | (focus (refine Or.inr ?_; omega)))); done)
          · simp only [nth]
            first | (unfold Is; rfl) | (unfold Any; exact trivial) | exact IsSl.new _ _ _ _ | assumption
        · intro ac wx hf hbs hs hp K hK
          simp only [waits, holdsA, nth, Is, Any, List.filter_cons, List.filter_nil, List.map_cons, List.map_nil, Region.binds, if_true, true_and, and_true, Nat.reduceAdd, List.getElem?_cons_zero, List.getElem?_cons_succ, Option.bind_some, Array.getD_eq_getD_getElem?] at hp
          clear hs
          clear hbs
          have h2 := hp
          clear hp
          have cx := k19 wx hf
          clear hf
          (try simp only [h2])
          go_simp
          try dsimp only
          refine hK.out _ _ ?_ ?_
          · change Fr [] _ _
            ((repeat (first | (with_reducible exact Fr.refl _ _) | (with_reducible assumption) | (with_reducible refine Fr.drew ?_) | (with_reducible refine Fr.drewN ?_ _) | (with_reducible refine Fr.alloc ?_ _) | (with_reducible refine Fr.setL ?_ _ _ _ ?_) | (focus (refine Or.inl ?_; simp; done)) | (focus (refine Or.inr ?_; simp; done)) | (focus (refine Or.inr ?_; simp; omega)) | (focus (refine Or.inr ?_; omega)))); done)
          · simp only [nth]
            first | (unfold Is; rfl) | (unfold Any; exact trivial) | exact IsSl.new _ _ _ _ | assumption
        · intro ac wx hf hbs hs hp K hK
          simp only [waits, holdsA, nth, Is, Any, List.filter_cons, List.filter_nil, List.map_cons, List.map_nil, Region.binds, if_true, true_and, and_true, Nat.reduceAdd, List.getElem?_cons_zero, List.getElem?_cons_succ, Option.bind_some, Array.getD_eq_getD_getElem?] at hp
          clear hs
          clear hbs
          have h3 := hp
          clear hp
          clear hf
          (try simp only [h3])
          go_simp
          try dsimp only
          refine hK.out _ _ ?_ ?_
          · change Fr [] _ _
            ((repeat (first | (with_reducible exact Fr.refl _ _) | (with_reducible assumption) | (with_reducible refine Fr.drew ?_) | (with_reducible refine Fr.drewN ?_ _) | (with_reducible refine Fr.alloc ?_ _) | (with_reducible refine Fr.setL ?_ _ _ _ ?_) | (focus (refine Or.inl ?_; simp; done)) | (focus (refine Or.inr ?_; simp; done)) | (focus (refine Or.inr ?_; simp; omega)) | (focus (refine Or.inr ?_; omega)))); done)
          · simp only [nth]
            first | (unfold Is; rfl) | (unfold Any; exact trivial) | exact IsSl.new _ _ _ _ | assumption
        · intro ac wx hf hbs hs hp K hK
          simp only [waits, holdsA, nth, Is, Any, List.filter_cons, List.filter_nil, List.map_cons, List.map_nil, Region.binds, if_true, true_and, and_true, Nat.reduceAdd, List.getElem?_cons_zero, List.getElem?_cons_succ, Option.bind_some, Array.getD_eq_getD_getElem?] at hp
          clear hs
          clear hbs
          have h4 := hp
          clear hp
          clear hf
          (try simp only [h4])
          go_simp
          try dsimp only
          refine hK.out _ _ ?_ ?_
          · change Fr [] _ _
            ((repeat (first | (with_reducible exact Fr.refl _ _) | (with_reducible assumption) | (with_reducible refine Fr.drew ?_) | (with_reducible refine Fr.drewN ?_ _) | (with_reducible refine Fr.alloc ?_ _) | (with_reducible refine Fr.setL ?_ _ _ _ ?_) | (focus (refine Or.inl ?_; simp; done)) | (focus (refine Or.inr ?_; simp; done)) | (focus (refine Or.inr ?_; simp; omega)) | (focus (refine Or.inr ?_; omega)))); done)
          · simp only [nth]
            first | (unfold Is; rfl) | (unfold Any; exact trivial) | exact IsSl.new _ _ _ _ | assumption
        · intro ac wx hf hbs hs hp K hK
          simp only [waits, holdsA, nth, Is, Any, List.filter_cons, List.filter_nil, List.map_cons, List.map_nil, Region.binds, if_true, true_and, and_true, Nat.reduceAdd, List.getElem?_cons_zero, List.getElem?_cons_succ, Option.bind_some, Array.getD_eq_getD_getElem?] at hp
          have hs0 := hs 0 (by kernel_rfl)
          simp only [Array.getD_eq_getD_getElem?, List.getElem?_toArray, List.getElem?_cons_succ, List.getElem?_cons_zero, Option.getD_some] at hs0
          clear hs
          clear hbs
          have h5 := hp
          clear hp
          have hg5 := (getD_bool _ _).1 h5
          clear hf
          (try simp only [h5, hg5])
          go_simp
          try dsimp only
          refine hK.out _ _ ?_ ?_
          · change Fr [] _ _
            ((repeat (first | (with_reducible exact Fr.refl _ _) | (with_reducible assumption) | (with_reducible refine Fr.drew ?_) | (with_reducible refine Fr.drewN ?_ _) | (with_reducible refine Fr.alloc ?_ _) | (with_reducible refine Fr.setL ?_ _ _ _ ?_) | (focus (refine Or.inl ?_; simp; done)) | (focus (refine Or.inr ?_; simp; done)) | (focus (refine Or.inr ?_; simp; omega)) | (focus (refine Or.inr ?_; omega)))); done)
          · simp only [nth]
            first | (unfold Is; rfl) | (unfold Any; exact trivial) | exact IsSl.new _ _ _ _ | assumption
        · intro ac wx hf hbs hs hp K hK
          simp only [waits, holdsA, nth, Is, Any, List.filter_cons, List.filter_nil, List.map_cons, List.map_nil, Region.binds, if_true, true_and, and_true, Nat.reduceAdd, List.getElem?_cons_zero, List.getElem?_cons_succ, Option.bind_some, Array.getD_eq_getD_getElem?] at hp
          clear hs
          clear hbs
          have h5 := hp
          clear hp
          have hg5 := (getD_bool _ _).1 h5
          clear hf
          (try simp only [h5, hg5])
          go_simp
          try dsimp only
          refine hK.out _ _ ?_ ?_
          · change Fr [] _ _
            ((repeat (first | (with_reducible exact Fr.refl _ _) | (with_reducible assumption) | (with_reducible refine Fr.drew ?_) | (with_reducible refine Fr.drewN ?_ _) | (with_reducible refine Fr.alloc ?_ _) | (with_reducible refine Fr.setL ?_ _ _ _ ?_) | (focus (refine Or.inl ?_; simp; done)) | (focus (refine Or.inr ?_; simp; done)) | (focus (refine Or.inr ?_; simp; omega)) | (focus (refine Or.inr ?_; omega)))); done)
          · simp only [nth]
            first | (unfold Is; rfl) | (unfold Any; exact trivial) | exact IsSl.new _ _ _ _ | assumption
        · intro ac wx hf hbs hs hp K hK
          simp only [waits, holdsA, nth, Is, Any, List.filter_cons, List.filter_nil, List.map_cons, List.map_nil, Region.binds, if_true, true_and, and_true, Nat.reduceAdd, List.getElem?_cons_zero, List.getElem?_cons_succ, Option.bind_some, Array.getD_eq_getD_getElem?] at hp
          clear hs
          clear hbs
          have h5 := hp
          clear hp
          have hg5 := (getD_bool _ _).1 h5
          clear hf
          (try simp only [h5, hg5])
          go_simp
          try dsimp only
          refine hK.out _ _ ?_ ?_
          · change Fr [] _ _
            ((repeat (first | (with_reducible exact Fr.refl _ _) | (with_reducible assumption) | (with_reducible refine Fr.drew ?_) | (with_reducible refine Fr.drewN ?_ _) | (with_reducible refine Fr.alloc ?_ _) | (with_reducible refine Fr.setL ?_ _ _ _ ?_) | (focus (refine Or.inl ?_; simp; done)) | (focus (refine Or.inr ?_; simp; done)) | (focus (refine Or.inr ?_; simp; omega)) | (focus (refine Or.inr ?_; omega)))); done)
          · simp only [nth]
            first | (unfold Is; rfl) | (unfold Any; exact trivial) | exact IsSl.new _ _ _ _ | assumption
        · intro ac wx hf hbs hs hp K hK
          simp only [waits, holdsA, nth, Is, Any, List.filter_cons, List.filter_nil, List.map_cons, List.map_nil, Region.binds, if_true, true_and, and_true, Nat.reduceAdd, List.getElem?_cons_zero, List.getElem?_cons_succ, Option.bind_some, Array.getD_eq_getD_getElem?] at hp
          clear hs
          clear hbs
          obtain ⟨h5, h5_2⟩ := hp
          have hg5 := (getD_bool _ _).1 h5
          clear hf
          (try simp only [h5, hg5])
          go_simp
          try dsimp only
          refine hK.out _ _ ?_ ?_
          · change Fr [] _ _
            ((repeat (first | (with_reducible exact Fr.refl _ _) | (with_reducible assumption) | (with_reducible refine Fr.drew ?_) | (with_reducible refine Fr.drewN ?_ _) | (with_reducible refine Fr.alloc ?_ _) | (with_reducible refine Fr.setL ?_ _ _ _ ?_) | (focus (refine Or.inl ?_; simp; done)) | (focus (refine Or.inr ?_; simp; done)) | (focus (refine Or.inr ?_; simp; omega)) | (focus (refine Or.inr ?_; omega)))); done)
          · simp only [nth]
            first | (unfold Is; rfl) | (unfold Any; exact trivial) | exact IsSl.new _ _ _ _ | assumption
        · intro ac wx hf hbs hs hp K hK
          simp only [waits, holdsA, nth, Is, Any, List.filter_cons, List.filter_nil, List.map_cons, List.map_nil, Region.binds, if_true, true_and, and_true, Nat.reduceAdd, List.getElem?_cons_zero, List.getElem?_cons_succ, Option.bind_some, Array.getD_eq_getD_getElem?] at hp
          have hs0 := hs 0 (by kernel_rfl)
          simp only [Array.getD_eq_getD_getElem?, List.getElem?_toArray, List.getElem?_cons_succ, List.getElem?_cons_zero, Option.getD_some] at hs0
          clear hs
          clear hbs
          have h5 := hp
          clear hp
          have hg5 := (getD_bool _ _).1 h5
          clear hf
          (try simp only [h5, hg5])
          go_simp
          try dsimp only
          refine hK.out _ _ ?_ ?_
          · change Fr [] _ _
            ((repeat (first | (with_reducible exact Fr.refl _ _) | (with_reducible assumption) | (with_reducible refine Fr.drew ?_) | (with_reducible refine Fr.drewN ?_ _) | (with_reducible refine Fr.alloc ?_ _) | (with_reducible refine Fr.setL ?_ _ _ _ ?_) | (focus (refine Or.inl ?_; simp; done)) | (focus (refine Or.inr ?_; simp; done)) | (focus (refine Or.inr ?_; simp; omega)) | (focus (refine Or.inr ?_; omega)))); done)
          · simp only [nth]
            first | (unfold Is; rfl) | (unfold Any; exact trivial) | exact IsSl.new _ _ _ _ | assumption
        · intro ac wx hf hbs hs hp K hK
          simp only [waits, holdsA, nth, Is, Any, List.filter_cons, List.filter_nil, List.map_cons, List.map_nil, Region.binds, if_true, true_and, and_true, Nat.reduceAdd, List.getElem?_cons_zero, List.getElem?_cons_succ, Option.bind_some, Array.getD_eq_getD_getElem?] at hp
          clear hs
          clear hbs
          have h5 := hp
          clear hp
          have hg5 := (getD_bool _ _).1 h5
          clear hf
          (try simp only [h5, hg5])
          go_simp
          try dsimp only
          refine hK.out _ _ ?_ ?_
          · change Fr [] _ _
            ((repeat (first | (with_reducible exact Fr.refl _ _) | (with_reducible assumption) | (with_reducible refine Fr.drew ?_) | (with_reducible refine Fr.drewN ?_ _) | (with_reducible refine Fr.alloc ?_ _) | (with_reducible refine Fr.setL ?_ _ _ _ ?_) | (focus (refine Or.inl ?_; simp; done)) | (focus (refine Or.inr ?_; simp; done)) | (focus (refine Or.inr ?_; simp; omega)) | (focus (refine Or.inr ?_; omega)))); done)
          · simp only [nth]
            first | (unfold Is; rfl) | (unfold Any; exact trivial) | exact IsSl.new _ _ _ _ | assumption
        · intro ac wx hf hbs hs hp K hK
          simp only [waits, holdsA, nth, Is, Any, List.filter_cons, List.filter_nil, List.map_cons, List.map_nil, Region.binds, if_true, true_and, and_true, Nat.reduceAdd, List.getElem?_cons_zero, List.getElem?_cons_succ, Option.bind_some, Array.getD_eq_getD_getElem?] at hp
          clear hs
          clear hbs
          have h5 := hp
          clear hp
          have hg5 := (getD_bool _ _).1 h5
          clear hf
          (try simp only [h5, hg5])
          go_simp
          try dsimp only
          refine hK.out _ _ ?_ ?_
          · change Fr [] _ _
            ((repeat (first | (with_reducible exact Fr.refl _ _) | (with_reducible assumption) | (with_reducible refine Fr.drew ?_) | (with_reducible refine Fr.drewN ?_ _) | (with_reducible refine Fr.alloc ?_ _) | (with_reducible refine Fr.setL ?_ _ _ _ ?_) | (focus (refine Or.inl ?_; simp; done)) | (focus (refine Or.inr ?_; simp; done)) | (focus (refine Or.inr ?_; simp; omega)) | (focus (refine Or.inr ?_; omega)))); done)
          · simp only [nth]
            first | (unfold Is; rfl) | (unfold Any; exact trivial) | exact IsSl.new _ _ _ _ | assumption
        · intro ac wx hf hbs hs hp K hK
          simp only [waits, holdsA, nth, Is, Any, List.filter_cons, List.filter_nil, List.map_cons, List.map_nil, Region.binds, if_true, true_and, and_true, Nat.reduceAdd, List.getElem?_cons_zero, List.getElem?_cons_succ, Option.bind_some, Array.getD_eq_getD_getElem?] at hp
          clear hs
          clear hbs
          have h5 := hp
          clear hp
          have hg5 := (getD_bool _ _).1 h5
          clear hf
          (try simp only [h5, hg5])
          go_simp
          try dsimp only
          refine hK.out _ _ ?_ ?_
          · change Fr [] _ _
            ((repeat (first | (with_reducible exact Fr.refl _ _) | (with_reducible assumption) | (with_reducible refine Fr.drew ?_) | (with_reducible refine Fr.drewN ?_ _) | (with_reducible refine Fr.alloc ?_ _) | (with_reducible refine Fr.setL ?_ _ _ _ ?_) | (focus (refine Or.inl ?_; simp; done)) | (focus (refine Or.inr ?_; simp; done)) | (focus (refine Or.inr ?_; simp; omega)) | (focus (refine Or.inr ?_; omega)))); done)
          · simp only [nth]
            first | (unfold Is; rfl) | (unfold Any; exact trivial) | exact IsSl.new _ _ _ _ | assumption
        · intro ac wx hf hbs hs hp K hK
          simp only [waits, holdsA, nth, Is, Any, List.filter_cons, List.filter_nil, List.map_cons, List.map_nil, Region.binds, if_true, true_and, and_true, Nat.reduceAdd, List.getElem?_cons_zero, List.getElem?_cons_succ, Option.bind_some, Array.getD_eq_getD_getElem?] at hp
          clear hs
          clear hbs
          have h5 := hp
          clear hp
          have hg5 := (getD_bool _ _).1 h5
          clear hf
          (try simp only [h5, hg5])
          go_simp
          try dsimp only
          refine hK.out _ _ ?_ ?_
          · change Fr [] _ _
            ((repeat (first | (with_reducible exact Fr.refl _ _) | (with_reducible assumption) | (with_reducible refine Fr.drew ?_) | (with_reducible refine Fr.drewN ?_ _) | (with_reducible refine Fr.alloc ?_ _) | (with_reducible refine Fr.setL ?_ _ _ _ ?_) | (focus (refine Or.inl ?_; simp; done)) | (focus (refine Or.inr ?_; simp; done)) | (focus (refine Or.inr ?_; simp; omega)) | (focus (refine Or.inr ?_; omega)))); done)
          · simp only [nth]
            first | (unfold Is; rfl) | (unfold Any; exact trivial) | exact IsSl.new _ _ _ _ | assumption
        · intro ac wx hf hbs hs hp K hK
          simp only [waits, holdsA, nth, Is, Any, List.filter_cons, List.filter_nil, List.map_cons, List.map_nil, Region.binds, if_true, true_and, and_true, Nat.reduceAdd, List.getElem?_cons_zero, List.getElem?_cons_succ, Option.bind_some, Array.getD_eq_getD_getElem?] at hp
          clear hs
          clear hbs
          have h5 := hp
          clear hp
          have hg5 := (getD_bool _ _).1 h5
          clear hf
          (try simp only [h5, hg5])
          go_simp
          try dsimp only
          refine hK.out _ _ ?_ ?_
          · change Fr [] _ _
            ((repeat (first | (with_reducible exact Fr.refl _ _) | (with_reducible assumption) | (with_reducible refine Fr.drew ?_) | (with_reducible refine Fr.drewN ?_ _) | (with_reducible refine Fr.alloc ?_ _) | (with_reducible refine Fr.setL ?_ _ _ _ ?_) | (focus (refine Or.inl ?_; simp; done)) | (focus (refine Or.inr ?_; simp; done)) | (focus (refine Or.inr ?_; simp; omega)) | (focus (refine Or.inr ?_; omega)))); done)
          · simp only [nth]
            first | (unfold Is; rfl) | (unfold Any; exact trivial) | exact IsSl.new _ _ _ _ | assumption
        · intro ac wx hf hbs hs hp K hK
          simp only [waits, holdsA, nth, Is, Any, List.filter_cons, List.filter_nil, List.map_cons, List.map_nil, Region.binds, if_true, true_and, and_true, Nat.reduceAdd, List.getElem?_cons_zero, List.getElem?_cons_succ, Option.bind_some, Array.getD_eq_getD_getElem?] at hp
          clear hs
          clear hbs
          have h5 := hp
          clear hp
          clear hf
          (try simp only [h5])
          go_simp
          try dsimp only
          refine hK.out _ _ ?_ ?_
          · change Fr [] _ _
            ((repeat (first | (with_reducible exact Fr.refl _ _) | (with_reducible assumption) | (with_reducible refine Fr.drew ?_) | (with_reducible refine Fr.drewN ?_ _) | (with_reducible refine Fr.alloc ?_ _) | (with_reducible refine Fr.setL ?_ _ _ _ ?_) | (focus (refine Or.inl ?_; simp; done)) | (focus (refine Or.inr ?_; simp; done)) | (focus (refine Or.inr ?_; simp; omega)) | (focus (refine Or.inr ?_; omega)))); done)
          · simp only [nth]
            first | (unfold Is; rfl) | (unfold Any; exact trivial) | exact IsSl.new _ _ _ _ | assumption
      case hD =>
        intro xv wx hf hp
        simp only [List.take_succ_cons, List.take_zero, List.drop_succ_cons, List.drop_zero, fill, List.setIfInBounds_toArray, List.set_cons_zero, List.set_cons_succ, Nat.reduceAdd, Act.put]
        rw [show live 17 (deadC [none, none, none, none, none, none, none, none, none, none, none, none, none, none, none, none, none]) = [0, 1, 2, 3, 4, 5, 6, 7, 8, 9, 10, 11, 12, 13, 14, 15, 16] from by decide] at hp
        simp only [holds, nth, Is, Any, true_and, and_true] at hp
        obtain ⟨p0, p1, p2, p3, p4, p5, p16⟩ := hp
        clear p0 k19
        have HN : Hid (IsTie wx v' m' ∧ Went w wx v v' ∧ pushP m' ∧ (if 0 < (m'.vs - m'.va) % 128 ∧ tleft m'.tm 29 = 0 then startM m' 29 else m') = R) := Lib.hid ⟨HN.out.1.fr0 hf, HN.out.2.1.fr0 hf, HN.out.2.2⟩
        clear hf
        simp only [p16]
        clear p1 p2 p3 p4 p5 p16
        obtain ⟨h8, W8, P8, E8⟩ := HN.out
        have hO8 := vars_Out v'.t (m'.cells v') m'.vs m'.vr m'.va wx h8.v3
        rw [W8.t] at hO8
        clear h8 W8 P8 E8
        go_wp2_with fail
        refine hO8.mono ?_
        rintro e w5 ⟨rfl, f5⟩
        obtain ⟨h8, W8, P8, E8⟩ := HN.out
        have h9 := h8.fr0 f5
        have W9 := W8.fr0 f5
        have tm9 := P8.tm
        have rm9 := P8.room
        have ca1 := P8.ca1
        have ca2 := P8.ca2
        clear hO8 h8 W8 P8 f5
        by_cases hpos : 0 < (m'.vs - m'.va) % 128
        · have d8 : decide (0 < (m'.vs - m'.va) % 128) = true := by simpa using hpos
          have c15 := h9.c15
          rw [W9.t] at c15
          have hL := clk_Left w5 v'.c v'.cl 4 v'.now m'.tm 29 h9.clk tm9
          have H9 := Lib.hid (And.intro h9 (And.intro W9 (And.intro E8 hpos)))
          clear h9 W9 E8 hpos
          go_wp2_with fail
          refine hL.mono ?_
          rintro e w6 ⟨rfl, f6⟩
          by_cases hz : tleft m'.tm 29 = 0
          · have d9 : (tleft m'.tm 29 == 0) = true := by rw [beq_iff_eq]; exact hz
            obtain ⟨h9, W9, E8, hpos⟩ := H9.out
            have h10 := h9.fr0 f6
            have W10 := W9.fr0 f6
            have hst := tie_start w6 v' m' 29 h10
            rw [W10.t] at hst
            have eR : R = startM m' 29 := by rw [← E8, if_pos ⟨hpos, hz⟩]
            have HE := Lib.hid eR
            have H10 := Lib.hid (And.intro h10 W10)
            clear h9 W9 E8 hpos h10 W10 eR H9 hL f6 c15 hz
            go_wp2_with fail
            refine hst.mono ?_
            rintro e w7 ⟨b0, b1, b2, M, rfl, c0, c1, c2, hM, l0, l1, l2, l3, f7⟩
            obtain ⟨h10, W10⟩ := H10.out
            have h11 := h10.fr0 f7
            have W11 := W10.fr0 f7
            have hcl := tie_start1 w7 v' m' 29 b0 b1 b2 M h11 (by rw [W11.t]; exact c0) c1 c2 hM (by omega) (by omega) tm9 ca1 ca2 (fun hn => by
              have : tstop m'.tm 29 = m'.tm := by
                rcases tidx_cases m'.tm 29 with ⟨_, _, e, _⟩ | ⟨i, hi, _, e, _⟩
                · exact e
                · omega
              rw [this] at rm9
              omega)
            have HCL := Lib.hid hcl
            have HW := Lib.hid W11
            clear hst H10 h10 W10 h11 W11 hcl hM c0 c1 c2 l0 l1 l2 l3 f7
            go_wp2_with fail
            refine HCL.out.mono ?_
            rintro e w8 ⟨rfl, ht⟩
            obtain ⟨v9, h12, W12⟩ := HW.out.step ht
            have HFIN := Lib.hid (W12.to h12)
            rw [← HE.out] at HFIN
            clear h12 W12 ht HCL HW
            go_wp2
            go_end0
            exact ⟨rfl, HFIN.out⟩
          · have d9 : (tleft m'.tm 29 == 0) = false := by rw [beq_eq_false_iff_ne]; exact hz
            obtain ⟨h9, W9, E8, hpos⟩ := H9.out
            have HFIN := Lib.hid ((W9.fr0 f6).to (h9.fr0 f6))
            rw [show m' = R by rw [← E8, if_neg (fun h => hz h.2)]] at HFIN
            clear h9 W9 E8 hpos H9 hL f6 c15 hz
            go_wp2
            go_end0
            exact ⟨rfl, HFIN.out⟩
        · have d8 : decide (0 < (m'.vs - m'.va) % 128) = false := by simpa using hpos
          have HFIN := Lib.hid (W9.to h9)
          rw [show m' = R by rw [← E8, if_neg (fun h => hpos h.1)]] at HFIN
          clear h9 W9 E8 hpos
          go_wp2
          go_end0
          exact ⟨rfl, HFIN.out⟩
    | false =>
      rw [hb] at k19
      obtain ⟨X, hX⟩ : ∃ X, (m'.vs - m'.va) % 128 = X := ⟨_, rfl⟩
      obtain ⟨Y, hY⟩ : ∃ Y, decide (X < m'.wide) = Y := ⟨_, rfl⟩
      have k14 : ∀ wx, Fr [] wr wx → wx.cell? ⟨v.t, 14, none⟩ = some (.pointer (some ⟨v'.w, 0, none⟩)) := fun wx hf => by rw [← et]; exact hf.cell h'.c14 (by simp)
      have hVO : ∀ wx, Fr [] wr wx → Calls Tryz.prog 206 #[.pointer (some ⟨v.t, 10, none⟩)] wx fun e w' => e = .returned (.int .i64 X) ∧ Fr [] wx w' := fun wx hf => by
        rw [← hX, ← et]
        exact vars_Out v'.t (m'.cells v') m'.vs m'.vr m'.va _ (h'.fr0 hf).v3
      have hWN : ∀ wx, Fr [] wr wx → Calls Tryz.prog 81 #[.pointer (some ⟨v'.w, 0, none⟩)] wx fun e w' => e = .returned (.int .i64 m'.wide) ∧ wx = w' := fun wx hf => win_Now v'.w m'.cw m'.wide m'.count _ (h'.fr0 hf).win
      have HVO := Lib.hid hVO
      have HWN := Lib.hid hWN
      have HY := Lib.hid (show Value.bool (decide (X < m'.wide)) = Value.bool Y by rw [hY])
      have HA := Lib.hid (And.intro h' (And.intro W' (And.intro hP' (And.intro eL (And.intro eq (And.intro efk (And.intro hX (And.intro hY hb))))))))
      have HE8 := Lib.hid (And.intro e8 stop)
      clear h' W' hP' eL eq et efk e8 stop hb hX hY hVO hWN
      go_wp2_with fail
      refine wp_region_keepsC [] [false, false, false, false, false, false, false, false, false, false, false, false, false, false, false, false, false] [none, none, none, none, none, none, none, none, none, none, none, none, none, none, none, none, none] (fun _ => True) [Is (.pointer (some ⟨v.t, 0, none⟩)), Is (.pointer (some ⟨v.t, 0, none⟩)), Is (.pointer (some ⟨v.t, 19, none⟩)), Is (.bool false), Is (.bool true), Is (.bool true), Is (.pointer (some ⟨v.t, 0, none⟩)), Is (.pointer (some ⟨v.t, 0, none⟩)), Is (.pointer (some ⟨v.t, 10, none⟩)), Is (.int .i64 X), Is (.pointer (some ⟨v.t, 0, none⟩)), Is (.pointer (some ⟨v.t, 0, none⟩)), Is (.pointer (some ⟨v.t, 14, none⟩)), Is (.pointer (some ⟨v'.w, 0, none⟩)), Is (.int .i64 m'.wide), Is (.bool Y), Is (.bool Y)] 17 (by kernel_rfl) (by kernel_rfl) (by kernel_rfl) (by kernel_rfl) (by kernel_rfl) (by kernel_rfl) (by kernel_rfl) (by kernel_rfl) ?hV (fun _ _ _ h => h) trivial ?hS ?hD
      case hV =>
        repeat (first | exact trivial | exact Is.keepsN _ | exact Any.keepsN | refine And.intro ?_ ?_)
      case hS =>
        (repeat' (first | exact trivial | refine And.intro ?_ ?_))
        · intro ac wx hf hbs hs hp K hK
          simp only [waits, holdsA, nth, Is, Any, List.filter_cons, List.filter_nil, List.map_cons, List.map_nil, Region.binds, if_true, true_and, and_true, Nat.reduceAdd, List.getElem?_cons_zero, List.getElem?_cons_succ, Option.bind_some, Array.getD_eq_getD_getElem?] at hp
          have hs0 := hs 0 (by kernel_rfl)
          simp only [Array.getD_eq_getD_getElem?, List.getElem?_toArray, List.getElem?_cons_succ, List.getElem?_cons_zero, Option.getD_some] at hs0
          clear hs
          clear hbs
          clear hp
          clear hf
          go_simp
          try dsimp only
          refine hK.out _ _ ?_ ?_
          · change Fr [] _ _
            ((repeat (first | (with_reducible exact Fr.refl _ _) | (with_reducible assumption) | (with_reducible refine Fr.drew ?_) | (with_reducible refine Fr.drewN ?_ _) | (with_reducible refine Fr.alloc ?_ _) | (with_reducible refine Fr.setL ?_ _ _ _ ?_) | (focus (refine Or.inl ?_; simp; done)) | (focus (refine Or.inr ?_; simp; done)) | (focus (refine Or.inr ?_; simp; omega)) | (focus (refine Or.inr ?_; omega)))); done)
          · simp only [nth]
            first | (unfold Is; rfl) | (unfold Any; exact trivial) | exact IsSl.new _ _ _ _ | assumption
        · intro ac wx hf hbs hs hp K hK
          simp only [waits, holdsA, nth, Is, Any, List.filter_cons, List.filter_nil, List.map_cons, List.map_nil, Region.binds, if_true, true_and, and_true, Nat.reduceAdd, List.getElem?_cons_zero, List.getElem?_cons_succ, Option.bind_some, Array.getD_eq_getD_getElem?] at hp
          clear hs
          clear hbs
          have h0 := hp
          clear hp
          clear hf
          (try simp only [h0])
          go_simp
          try dsimp only
          refine hK.out _ _ ?_ ?_
          · change Fr [] _ _
            ((repeat (first | (with_reducible exact Fr.refl _ _) | (with_reducible assumption) | (with_reducible refine Fr.drew ?_) | (with_reducible refine Fr.drewN ?_ _) | (with_reducible refine Fr.alloc ?_ _) | (with_reducible refine Fr.setL ?_ _ _ _ ?_) | (focus (refine Or.inl ?_; simp; done)) | (focus (refine Or.inr ?_; simp; done)) | (focus (refine Or.inr ?_; simp; omega)) | (focus (refine Or.inr ?_; omega)))); done)
          · simp only [nth]
            first | (unfold Is; rfl) | (unfold Any; exact trivial) | exact IsSl.new _ _ _ _ | assumption
        · intro ac wx hf hbs hs hp K hK
          simp only [waits, holdsA, nth, Is, Any, List.filter_cons, List.filter_nil, List.map_cons, List.map_nil, Region.binds, if_true, true_and, and_true, Nat.reduceAdd, List.getElem?_cons_zero, List.getElem?_cons_succ, Option.bind_some, Array.getD_eq_getD_getElem?] at hp
          clear hs
          clear hbs
          have h1 := hp
          clear hp
          clear hf
          (try simp only [h1])
          go_simp
          try dsimp only
          refine hK.out _ _ ?_ ?_
          · change Fr [] _ _
            ((repeat (first | (with_reducible exact Fr.refl _ _) | (with_reducible assumption) | (with_reducible refine Fr.drew ?_) | (with_reducible refine Fr.drewN ?_ _) | (with_reducible refine Fr.alloc ?_ _) | (with_reducible refine Fr.setL ?_ _ _ _ ?_) | (focus (refine Or.inl ?_; simp; done)) | (focus (refine Or.inr ?_; simp; done)) | (focus (refine Or.inr ?_; simp; omega)) | (focus (refine Or.inr ?_; omega)))); done)
          · simp only [nth]
            first | (unfold Is; rfl) | (unfold Any; exact trivial) | exact IsSl.new _ _ _ _ | assumption
        · intro ac wx hf hbs hs hp K hK
          simp only [waits, holdsA, nth, Is, Any, List.filter_cons, List.filter_nil, List.map_cons, List.map_nil, Region.binds, if_true, true_and, and_true, Nat.reduceAdd, List.getElem?_cons_zero, List.getElem?_cons_succ, Option.bind_some, Array.getD_eq_getD_getElem?] at hp
          clear hs
          clear hbs
          have h2 := hp
          clear hp
          have cx := k19 wx hf
          clear hf
          (try simp only [h2])
          go_simp
          try dsimp only
          refine hK.out _ _ ?_ ?_
          · change Fr [] _ _
            ((repeat (first | (with_reducible exact Fr.refl _ _) | (with_reducible assumption) | (with_reducible refine Fr.drew ?_) | (with_reducible refine Fr.drewN ?_ _) | (with_reducible refine Fr.alloc ?_ _) | (with_reducible refine Fr.setL ?_ _ _ _ ?_) | (focus (refine Or.inl ?_; simp; done)) | (focus (refine Or.inr ?_; simp; done)) | (focus (refine Or.inr ?_; simp; omega)) | (focus (refine Or.inr ?_; omega)))); done)
          · simp only [nth]
            first | (unfold Is; rfl) | (unfold Any; exact trivial) | exact IsSl.new _ _ _ _ | assumption
        · intro ac wx hf hbs hs hp K hK
          simp only [waits, holdsA, nth, Is, Any, List.filter_cons, List.filter_nil, List.map_cons, List.map_nil, Region.binds, if_true, true_and, and_true, Nat.reduceAdd, List.getElem?_cons_zero, List.getElem?_cons_succ, Option.bind_some, Array.getD_eq_getD_getElem?] at hp
          clear hs
          clear hbs
          have h3 := hp
          clear hp
          clear hf
          (try simp only [h3])
          go_simp
          try dsimp only
          refine hK.out _ _ ?_ ?_
          · change Fr [] _ _
            ((repeat (first | (with_reducible exact Fr.refl _ _) | (with_reducible assumption) | (with_reducible refine Fr.drew ?_) | (with_reducible refine Fr.drewN ?_ _) | (with_reducible refine Fr.alloc ?_ _) | (with_reducible refine Fr.setL ?_ _ _ _ ?_) | (focus (refine Or.inl ?_; simp; done)) | (focus (refine Or.inr ?_; simp; done)) | (focus (refine Or.inr ?_; simp; omega)) | (focus (refine Or.inr ?_; omega)))); done)
          · simp only [nth]
            first | (unfold Is; rfl) | (unfold Any; exact trivial) | exact IsSl.new _ _ _ _ | assumption
        · intro ac wx hf hbs hs hp K hK
          simp only [waits, holdsA, nth, Is, Any, List.filter_cons, List.filter_nil, List.map_cons, List.map_nil, Region.binds, if_true, true_and, and_true, Nat.reduceAdd, List.getElem?_cons_zero, List.getElem?_cons_succ, Option.bind_some, Array.getD_eq_getD_getElem?] at hp
          clear hs
          clear hbs
          have h4 := hp
          clear hp
          clear hf
          (try simp only [h4])
          go_simp
          try dsimp only
          refine hK.out _ _ ?_ ?_
          · change Fr [] _ _
            ((repeat (first | (with_reducible exact Fr.refl _ _) | (with_reducible assumption) | (with_reducible refine Fr.drew ?_) | (with_reducible refine Fr.drewN ?_ _) | (with_reducible refine Fr.alloc ?_ _) | (with_reducible refine Fr.setL ?_ _ _ _ ?_) | (focus (refine Or.inl ?_; simp; done)) | (focus (refine Or.inr ?_; simp; done)) | (focus (refine Or.inr ?_; simp; omega)) | (focus (refine Or.inr ?_; omega)))); done)
          · simp only [nth]
            first | (unfold Is; rfl) | (unfold Any; exact trivial) | exact IsSl.new _ _ _ _ | assumption
        · intro ac wx hf hbs hs hp K hK
          simp only [waits, holdsA, nth, Is, Any, List.filter_cons, List.filter_nil, List.map_cons, List.map_nil, Region.binds, if_true, true_and, and_true, Nat.reduceAdd, List.getElem?_cons_zero, List.getElem?_cons_succ, Option.bind_some, Array.getD_eq_getD_getElem?] at hp
          have hs0 := hs 0 (by kernel_rfl)
          simp only [Array.getD_eq_getD_getElem?, List.getElem?_toArray, List.getElem?_cons_succ, List.getElem?_cons_zero, Option.getD_some] at hs0
          clear hs
          clear hbs
          have h5 := hp
          clear hp
          have hg5 := (getD_bool _ _).1 h5
          clear hf
          (try simp only [h5, hg5])
          go_simp
          try dsimp only
          refine hK.out _ _ ?_ ?_
          · change Fr [] _ _
            ((repeat (first | (with_reducible exact Fr.refl _ _) | (with_reducible assumption) | (with_reducible refine Fr.drew ?_) | (with_reducible refine Fr.drewN ?_ _) | (with_reducible refine Fr.alloc ?_ _) | (with_reducible refine Fr.setL ?_ _ _ _ ?_) | (focus (refine Or.inl ?_; simp; done)) | (focus (refine Or.inr ?_; simp; done)) | (focus (refine Or.inr ?_; simp; omega)) | (focus (refine Or.inr ?_; omega)))); done)
          · simp only [nth]
            first | (unfold Is; rfl) | (unfold Any; exact trivial) | exact IsSl.new _ _ _ _ | assumption
        · intro ac wx hf hbs hs hp K hK
          simp only [waits, holdsA, nth, Is, Any, List.filter_cons, List.filter_nil, List.map_cons, List.map_nil, Region.binds, if_true, true_and, and_true, Nat.reduceAdd, List.getElem?_cons_zero, List.getElem?_cons_succ, Option.bind_some, Array.getD_eq_getD_getElem?] at hp
          clear hs
          clear hbs
          obtain ⟨h6, h5⟩ := hp
          have hg5 := (getD_bool _ _).1 h5
          clear hf
          (try simp only [h6, h5, hg5])
          go_simp
          try dsimp only
          refine hK.out _ _ ?_ ?_
          · change Fr [] _ _
            ((repeat (first | (with_reducible exact Fr.refl _ _) | (with_reducible assumption) | (with_reducible refine Fr.drew ?_) | (with_reducible refine Fr.drewN ?_ _) | (with_reducible refine Fr.alloc ?_ _) | (with_reducible refine Fr.setL ?_ _ _ _ ?_) | (focus (refine Or.inl ?_; simp; done)) | (focus (refine Or.inr ?_; simp; done)) | (focus (refine Or.inr ?_; simp; omega)) | (focus (refine Or.inr ?_; omega)))); done)
          · simp only [nth]
            first | (unfold Is; rfl) | (unfold Any; exact trivial) | exact IsSl.new _ _ _ _ | assumption
        · intro ac wx hf hbs hs hp K hK
          simp only [waits, holdsA, nth, Is, Any, List.filter_cons, List.filter_nil, List.map_cons, List.map_nil, Region.binds, if_true, true_and, and_true, Nat.reduceAdd, List.getElem?_cons_zero, List.getElem?_cons_succ, Option.bind_some, Array.getD_eq_getD_getElem?] at hp
          clear hs
          clear hbs
          obtain ⟨h7, h5⟩ := hp
          have hg5 := (getD_bool _ _).1 h5
          clear hf
          (try simp only [h7, h5, hg5])
          go_simp
          try dsimp only
          refine hK.out _ _ ?_ ?_
          · change Fr [] _ _
            ((repeat (first | (with_reducible exact Fr.refl _ _) | (with_reducible assumption) | (with_reducible refine Fr.drew ?_) | (with_reducible refine Fr.drewN ?_ _) | (with_reducible refine Fr.alloc ?_ _) | (with_reducible refine Fr.setL ?_ _ _ _ ?_) | (focus (refine Or.inl ?_; simp; done)) | (focus (refine Or.inr ?_; simp; done)) | (focus (refine Or.inr ?_; simp; omega)) | (focus (refine Or.inr ?_; omega)))); done)
          · simp only [nth]
            first | (unfold Is; rfl) | (unfold Any; exact trivial) | exact IsSl.new _ _ _ _ | assumption
        · intro ac wx hf hbs hs hp K hK
          simp only [waits, holdsA, nth, Is, Any, List.filter_cons, List.filter_nil, List.map_cons, List.map_nil, Region.binds, if_true, true_and, and_true, Nat.reduceAdd, List.getElem?_cons_zero, List.getElem?_cons_succ, Option.bind_some, Array.getD_eq_getD_getElem?] at hp
          clear hs
          clear hbs
          obtain ⟨h8, h5, h5_2⟩ := hp
          have hg5 := (getD_bool _ _).1 h5
          (try simp only [h8, h5, hg5])
          go_simp
          go_at_call 206
          refine (HVO.out _ hf).mono ?_
          rintro e w' ⟨rfl, fz⟩
          exact hK.out _ _ fz rfl
        · intro ac wx hf hbs hs hp K hK
          simp only [waits, holdsA, nth, Is, Any, List.filter_cons, List.filter_nil, List.map_cons, List.map_nil, Region.binds, if_true, true_and, and_true, Nat.reduceAdd, List.getElem?_cons_zero, List.getElem?_cons_succ, Option.bind_some, Array.getD_eq_getD_getElem?] at hp
          have hs0 := hs 0 (by kernel_rfl)
          simp only [Array.getD_eq_getD_getElem?, List.getElem?_toArray, List.getElem?_cons_succ, List.getElem?_cons_zero, Option.getD_some] at hs0
          clear hs
          clear hbs
          have h5 := hp
          clear hp
          have hg5 := (getD_bool _ _).1 h5
          clear hf
          (try simp only [h5, hg5])
          go_simp
          try dsimp only
          refine hK.out _ _ ?_ ?_
          · change Fr [] _ _
            ((repeat (first | (with_reducible exact Fr.refl _ _) | (with_reducible assumption) | (with_reducible refine Fr.drew ?_) | (with_reducible refine Fr.drewN ?_ _) | (with_reducible refine Fr.alloc ?_ _) | (with_reducible refine Fr.setL ?_ _ _ _ ?_) | (focus (refine Or.inl ?_; simp; done)) | (focus (refine Or.inr ?_; simp; done)) | (focus (refine Or.inr ?_; simp; omega)) | (focus (refine Or.inr ?_; omega)))); done)
          · simp only [nth]
            first | (unfold Is; rfl) | (unfold Any; exact trivial) | exact IsSl.new _ _ _ _ | assumption
        · intro ac wx hf hbs hs hp K hK
          simp only [waits, holdsA, nth, Is, Any, List.filter_cons, List.filter_nil, List.map_cons, List.map_nil, Region.binds, if_true, true_and, and_true, Nat.reduceAdd, List.getElem?_cons_zero, List.getElem?_cons_succ, Option.bind_some, Array.getD_eq_getD_getElem?] at hp
          clear hs
          clear hbs
          obtain ⟨h10, h5⟩ := hp
          have hg5 := (getD_bool _ _).1 h5
          clear hf
          (try simp only [h10, h5, hg5])
          go_simp
          try dsimp only
          refine hK.out _ _ ?_ ?_
          · change Fr [] _ _
            ((repeat (first | (with_reducible exact Fr.refl _ _) | (with_reducible assumption) | (with_reducible refine Fr.drew ?_) | (with_reducible refine Fr.drewN ?_ _) | (with_reducible refine Fr.alloc ?_ _) | (with_reducible refine Fr.setL ?_ _ _ _ ?_) | (focus (refine Or.inl ?_; simp; done)) | (focus (refine Or.inr ?_; simp; done)) | (focus (refine Or.inr ?_; simp; omega)) | (focus (refine Or.inr ?_; omega)))); done)
          · simp only [nth]
            first | (unfold Is; rfl) | (unfold Any; exact trivial) | exact IsSl.new _ _ _ _ | assumption
        · intro ac wx hf hbs hs hp K hK
          simp only [waits, holdsA, nth, Is, Any, List.filter_cons, List.filter_nil, List.map_cons, List.map_nil, Region.binds, if_true, true_and, and_true, Nat.reduceAdd, List.getElem?_cons_zero, List.getElem?_cons_succ, Option.bind_some, Array.getD_eq_getD_getElem?] at hp
          clear hs
          clear hbs
          obtain ⟨h11, h5⟩ := hp
          have hg5 := (getD_bool _ _).1 h5
          clear hf
          (try simp only [h11, h5, hg5])
          go_simp
          try dsimp only
          refine hK.out _ _ ?_ ?_
          · change Fr [] _ _
            ((repeat (first | (with_reducible exact Fr.refl _ _) | (with_reducible assumption) | (with_reducible refine Fr.drew ?_) | (with_reducible refine Fr.drewN ?_ _) | (with_reducible refine Fr.alloc ?_ _) | (with_reducible refine Fr.setL ?_ _ _ _ ?_) | (focus (refine Or.inl ?_; simp; done)) | (focus (refine Or.inr ?_; simp; done)) | (focus (refine Or.inr ?_; simp; omega)) | (focus (refine Or.inr ?_; omega)))); done)
          · simp only [nth]
            first | (unfold Is; rfl) | (unfold Any; exact trivial) | exact IsSl.new _ _ _ _ | assumption
        · intro ac wx hf hbs hs hp K hK
          simp only [waits, holdsA, nth, Is, Any, List.filter_cons, List.filter_nil, List.map_cons, List.map_nil, Region.binds, if_true, true_and, and_true, Nat.reduceAdd, List.getElem?_cons_zero, List.getElem?_cons_succ, Option.bind_some, Array.getD_eq_getD_getElem?] at hp
          clear hs
          clear hbs
          obtain ⟨h12, h5⟩ := hp
          have hg5 := (getD_bool _ _).1 h5
          have cx := k14 wx hf
          clear hf
          (try simp only [h12, h5, hg5])
          go_simp
          try dsimp only
          refine hK.out _ _ ?_ ?_
          · change Fr [] _ _
            ((repeat (first | (with_reducible exact Fr.refl _ _) | (with_reducible assumption) | (with_reducible refine Fr.drew ?_) | (with_reducible refine Fr.drewN ?_ _) | (with_reducible refine Fr.alloc ?_ _) | (with_reducible refine Fr.setL ?_ _ _ _ ?_) | (focus (refine Or.inl ?_; simp; done)) | (focus (refine Or.inr ?_; simp; done)) | (focus (refine Or.inr ?_; simp; omega)) | (focus (refine Or.inr ?_; omega)))); done)
          · simp only [nth]
            first | (unfold Is; rfl) | (unfold Any; exact trivial) | exact IsSl.new _ _ _ _ | assumption
        · intro ac wx hf hbs hs hp K hK
          simp only [waits, holdsA, nth, Is, Any, List.filter_cons, List.filter_nil, List.map_cons, List.map_nil, Region.binds, if_true, true_and, and_true, Nat.reduceAdd, List.getElem?_cons_zero, List.getElem?_cons_succ, Option.bind_some, Array.getD_eq_getD_getElem?] at hp
          clear hs
          clear hbs
          obtain ⟨h13, h9, h5⟩ := hp
          have hg5 := (getD_bool _ _).1 h5
          (try simp only [h13, h9, h5, hg5])
          go_simp
          go_at_call 81
          refine (HWN.out _ hf).mono ?_
          rintro e w' ⟨rfl, rfl⟩
          try dsimp only
          refine hK.out _ _ ?_ ?_
          · change Fr [] _ _
            ((repeat (first | (with_reducible exact Fr.refl _ _) | (with_reducible assumption) | (with_reducible refine Fr.drew ?_) | (with_reducible refine Fr.drewN ?_ _) | (with_reducible refine Fr.alloc ?_ _) | (with_reducible refine Fr.setL ?_ _ _ _ ?_) | (focus (refine Or.inl ?_; simp; done)) | (focus (refine Or.inr ?_; simp; done)) | (focus (refine Or.inr ?_; simp; omega)) | (focus (refine Or.inr ?_; omega)))); done)
          · simp only [nth]
            first | (unfold Is; rfl) | (unfold Any; exact trivial) | exact IsSl.new _ _ _ _ | assumption
        · intro ac wx hf hbs hs hp K hK
          simp only [waits, holdsA, nth, Is, Any, List.filter_cons, List.filter_nil, List.map_cons, List.map_nil, Region.binds, if_true, true_and, and_true, Nat.reduceAdd, List.getElem?_cons_zero, List.getElem?_cons_succ, Option.bind_some, Array.getD_eq_getD_getElem?] at hp
          clear hs
          clear hbs
          obtain ⟨h9, h14, h5⟩ := hp
          have hg5 := (getD_bool _ _).1 h5
          clear hf
          (try simp only [h9, h14, h5, hg5])
          go_simp
          refine hK.out _ _ ?_ ?_
          · change Fr [] _ _
            exact Fr.refl _ _
          · simp only [nth]
            exact HY.out
        · intro ac wx hf hbs hs hp K hK
          simp only [waits, holdsA, nth, Is, Any, List.filter_cons, List.filter_nil, List.map_cons, List.map_nil, Region.binds, if_true, true_and, and_true, Nat.reduceAdd, List.getElem?_cons_zero, List.getElem?_cons_succ, Option.bind_some, Array.getD_eq_getD_getElem?] at hp
          clear hs
          clear hbs
          obtain ⟨h5, h15⟩ := hp
          clear hf
          (try simp only [h5, h15])
          go_simp
          try dsimp only
          refine hK.out _ _ ?_ ?_
          · change Fr [] _ _
            ((repeat (first | (with_reducible exact Fr.refl _ _) | (with_reducible assumption) | (with_reducible refine Fr.drew ?_) | (with_reducible refine Fr.drewN ?_ _) | (with_reducible refine Fr.alloc ?_ _) | (with_reducible refine Fr.setL ?_ _ _ _ ?_) | (focus (refine Or.inl ?_; simp; done)) | (focus (refine Or.inr ?_; simp; done)) | (focus (refine Or.inr ?_; simp; omega)) | (focus (refine Or.inr ?_; omega)))); done)
          · simp only [nth]
            first | (unfold Is; rfl) | (unfold Any; exact trivial) | exact IsSl.new _ _ _ _ | assumption
      case hD =>
        intro xv wx hf hp
        simp only [List.take_succ_cons, List.take_zero, List.drop_succ_cons, List.drop_zero, fill, List.setIfInBounds_toArray, List.set_cons_zero, List.set_cons_succ, Nat.reduceAdd, Act.put]
        rw [show live 17 (deadC [none, none, none, none, none, none, none, none, none, none, none, none, none, none, none, none, none]) = [0, 1, 2, 3, 4, 5, 6, 7, 8, 9, 10, 11, 12, 13, 14, 15, 16] from by decide] at hp
        simp only [holds, nth, Is, Any, true_and, and_true] at hp
        obtain ⟨p0, p1, p2, p3, p4, p5, p6, p7, p8, p9, p10, p11, p12, p13, p14, p15, p16⟩ := hp
        simp only [p16]
        clear p0 p1 p2 p3 p4 p5 p6 p7 p8 p9 p10 p11 p12 p13 p14 p15 p16 k19 k14 HN HVO HWN HY
        obtain ⟨h', W', hP', eL, eq, efk, hX, hY, hb⟩ := HA.out
        have h1 := h'.fr0 hf
        have W1 := W'.fr0 hf
        have et := W1.t
        cases Y with
        | false =>
          have hn : ¬ mayPush m' := fun h => by have := h.2.1; rw [hX] at this; simp at hY; omega
          have HN : Hid (IsTie wx v' m' ∧ Went w wx v v' ∧ pushP m' ∧ (if 0 < (m'.vs - m'.va) % 128 ∧ tleft m'.tm 29 = 0 then startM m' 29 else m') = R) := Lib.hid ⟨h1, W1, hP', by have := HE8.out.1; rw [HE8.out.2 hn] at this; exact this⟩
          clear HE8 HA h' W' hP' eL eq efk hX hY hb h1 W1 et hf hn
          obtain ⟨h8, W8, P8, E8⟩ := HN.out
          have hO8 := vars_Out v'.t (m'.cells v') m'.vs m'.vr m'.va wx h8.v3
          rw [W8.t] at hO8
          clear h8 W8 P8 E8
          go_wp2_with fail
          refine hO8.mono ?_
          rintro e w5 ⟨rfl, f5⟩
          obtain ⟨h8, W8, P8, E8⟩ := HN.out
          have h9 := h8.fr0 f5
          have W9 := W8.fr0 f5
          have tm9 := P8.tm
          have rm9 := P8.room
          have ca1 := P8.ca1
          have ca2 := P8.ca2
          clear hO8 h8 W8 P8 f5
          by_cases hpos : 0 < (m'.vs - m'.va) % 128
          · have d8 : decide (0 < (m'.vs - m'.va) % 128) = true := by simpa using hpos
            have c15 := h9.c15
            rw [W9.t] at c15
            have hL := clk_Left w5 v'.c v'.cl 4 v'.now m'.tm 29 h9.clk tm9
            have H9 := Lib.hid (And.intro h9 (And.intro W9 (And.intro E8 hpos)))
            clear h9 W9 E8 hpos
            go_wp2_with fail
            refine hL.mono ?_
            rintro e w6 ⟨rfl, f6⟩
            by_cases hz : tleft m'.tm 29 = 0
            · have d9 : (tleft m'.tm 29 == 0) = true := by rw [beq_iff_eq]; exact hz
              obtain ⟨h9, W9, E8, hpos⟩ := H9.out
              have h10 := h9.fr0 f6
              have W10 := W9.fr0 f6
              have hst := tie_start w6 v' m' 29 h10
              rw [W10.t] at hst
              have eR : R = startM m' 29 := by rw [← E8, if_pos ⟨hpos, hz⟩]
              have HE := Lib.hid eR
              have H10 := Lib.hid (And.intro h10 W10)
              clear h9 W9 E8 hpos h10 W10 eR H9 hL f6 c15 hz
              go_wp2_with fail
              refine hst.mono ?_
              rintro e w7 ⟨b0, b1, b2, M, rfl, c0, c1, c2, hM, l0, l1, l2, l3, f7⟩
              obtain ⟨h10, W10⟩ := H10.out
              have h11 := h10.fr0 f7
              have W11 := W10.fr0 f7
              have hcl := tie_start1 w7 v' m' 29 b0 b1 b2 M h11 (by rw [W11.t]; exact c0) c1 c2 hM (by omega) (by omega) tm9 ca1 ca2 (fun hn => by
                have : tstop m'.tm 29 = m'.tm := by
                  rcases tidx_cases m'.tm 29 with ⟨_, _, e, _⟩ | ⟨i, hi, _, e, _⟩
                  · exact e
                  · omega
                rw [this] at rm9
                omega)
              have HCL := Lib.hid hcl
              have HW := Lib.hid W11
              clear hst H10 h10 W10 h11 W11 hcl hM c0 c1 c2 l0 l1 l2 l3 f7
              go_wp2_with fail
              refine HCL.out.mono ?_
              rintro e w8 ⟨rfl, ht⟩
              obtain ⟨v9, h12, W12⟩ := HW.out.step ht
              have HFIN := Lib.hid (W12.to h12)
              rw [← HE.out] at HFIN
              clear h12 W12 ht HCL HW
              go_wp2
              go_end0
              exact ⟨rfl, HFIN.out⟩
            · have d9 : (tleft m'.tm 29 == 0) = false := by rw [beq_eq_false_iff_ne]; exact hz
              obtain ⟨h9, W9, E8, hpos⟩ := H9.out
              have HFIN := Lib.hid ((W9.fr0 f6).to (h9.fr0 f6))
              rw [show m' = R by rw [← E8, if_neg (fun h => hz h.2)]] at HFIN
              clear h9 W9 E8 hpos H9 hL f6 c15 hz
              go_wp2
              go_end0
              exact ⟨rfl, HFIN.out⟩
          · have d8 : decide (0 < (m'.vs - m'.va) % 128) = false := by simpa using hpos
            have HFIN := Lib.hid (W9.to h9)
            rw [show m' = R by rw [← E8, if_neg (fun h => hpos h.1)]] at HFIN
            clear h9 W9 E8 hpos
            go_wp2
            go_end0
            exact ⟨rfl, HFIN.out⟩
        | true =>
          have c13 := h1.c13
          rw [et] at c13
          have hXw : X < m'.wide := by simpa using hY
          have fP := hP'.send
          have qP := hP'.q
          have oP := hP'.out
          by_cases ho : m'.out < m'.q.length
          · have hmay : mayPush m' := ⟨hb, by rw [hX]; exact hXw, ho⟩
            have hBN := back_Next wx v'.k v'.q v'.ql 64 m'.out m'.q h1.back ho qP (hP'.sdu _ (List.getElem_mem ho))
            have H1 := Lib.hid (And.intro h1 W1)
            have HMAY := Lib.hid hmay
            have hd127 : ¬ (m'.vs - m'.va) % 128 = 127 := by have := hP'.wide; omega
            have HD := Lib.hid hd127
            have HWR := Lib.hid hf
            clear h' W' hP' eL eq efk hX hY hb h1 W1 et hXw hmay hd127 hf
            go_wp2_with fail
            refine hBN.mono ?_
            rintro e w2 ⟨sx, rfl, hbt, hk, f2⟩
            obtain ⟨h1, W1⟩ := H1.out
            obtain ⟨h2, g2⟩ := h1.setBack1 (out := m'.out + 1) hk f2
            have W2 := W1.same g2
            have H2 := Lib.hid (And.intro h2 (And.intro W2 hbt))
            clear h1 W1 hBN H1 hk f2 g2 h2 W2 hbt c13
            go_wp2_with fail
            haveI : Nonempty (Held (fun _ => True)) := ⟨⟨w2, trivial⟩⟩
            refine wp_region_mixP (fun x => ∃ n : Held (fun _ => True), x = n.x) [([0, 1, 2, 3, 5, 6, 7, 9], some 4), ([], some 8), ([], some 10), ([], some 11)] (by kernel_rfl) (by kernel_rfl) (by kernel_rfl) (by kernel_rfl) ⟨⟨_, trivial⟩, rfl⟩ ?_
            simp only [wpMixP, pickL, pick1, List.getElem?_toArray, List.getElem?_cons_zero, List.getElem?_cons_succ]
            repeat (go_big_quiet_step (fail))
            refine wpQuiet_nil ?_
            obtain ⟨h2, W2, hbt⟩ := H2.out
            have fd : Fr [] w2 w2.drew := (Fr.refl [] w2).drew
            have h3 := h2.fr0 fd
            have W3 := W2.fr0 fd
            have hbt3 := hbt.fr fd
            have et := W3.t
            have hSE := vars_Sent v'.t _ m'.vs m'.vr m'.va w2.drew h3.v3
            rw [if_neg HD.out, if_neg HD.out, et] at hSE
            have H3 := Lib.hid (And.intro h3 (And.intro W3 hbt3))
            clear h2 W2 hbt fd h3 W3 hbt3 et
            go_wp2_with fail
            refine hSE.mono ?_
            rintro e w4 ⟨rfl, hv, f4⟩
            obtain ⟨h3, W3, hbt3⟩ := H3.out
            have et := W3.t
            rw [← et] at hv f4
            have h4 := h3.upd f4 (m' := { m' with out := m'.out + 1, vs := (m'.vs + 1) % 128 }) hv.2 rfl
            have W4 := W3.own f4
            have hbt4 := hbt3.frL f4 (fun x hx => by simp at hx; subst hx; exact ⟨Nat.zero_le _, Blk.noU h3.blk (by decide)⟩)
            have hVR := vars_Vr v'.t _ ((m'.vs + 1) % 128) m'.vr m'.va w4 h4.v3
            rw [et] at hVR
            have H4 := Lib.hid (And.intro h4 (And.intro W4 hbt4))
            clear h3 W3 hbt3 et hv f4 h4 W4 hbt4 hSE H3 H2
            go_wp2_with fail
            refine ⟨⟨⟨_, trivial⟩, rfl⟩, ?_⟩
            dsimp only
            refine wpQuiet_nil ?_
            go_wp2_with fail
            refine hVR.mono ?_
            rintro e w5 ⟨rfl, f5⟩
            obtain ⟨h4, W4, hbt4⟩ := H4.out
            have h5 := h4.fr0 f5
            have W5 := W4.fr0 f5
            have hbt5 := hbt4.fr f5
            have hTS := tie_send w5 v' _ (pushD m') sx h5 (by show Bts 0 w5 sx (m'.q.getD m'.out []); rw [show m'.q.getD m'.out [] = m'.q[m'.out] by simp [List.getD, ho]]; exact hbt5) (by show m'.send.length ≤ 100000; omega)
            have et := W5.t
            rw [et] at hTS
            have HTS := Lib.hid hTS
            have H5 := Lib.hid W5
            clear h4 W4 hbt4 h5 W5 hbt5 hTS et hVR H4 f5
            go_wp2_with fail
            refine ⟨⟨⟨_, trivial⟩, rfl⟩, ?_⟩
            dsimp only
            refine wpQuiet_nil ?_
            go_wp2_with fail
            refine ⟨⟨⟨_, trivial⟩, rfl⟩, ?_⟩
            dsimp only
            refine wpQuiet_nil ?_
            go_wp2_with fail
            refine HTS.out.mono ?_
            rintro e w6 ⟨rfl, ht⟩
            obtain ⟨v7, h7, W7⟩ := H5.out.step ht
            have h7 : IsTie w6 v7 (pushS m') := h7
            have H7 := Lib.hid (And.intro h7 W7)
            clear h7 W7 ht HTS H5
            go_wp2_with fail
            refine ⟨⟨⟨_, trivial⟩, rfl⟩, ?_⟩
            dsimp only
            go_wp2
            go_roundw
            case rel =>
              obtain ⟨h', W', hP', eL, eq, efk, hX, hY, hb⟩ := HA.out
              obtain ⟨h7, W7⟩ := H7.out
              refine ⟨v7, pushS m', h7, W7, hP'.step HMAY.out, ?_, eq⟩
              rw [← eL]
              show pushL (m'.q.length - (m'.out + 1)) (pushS m') = _
              rw [show m'.q.length - m'.out = (m'.q.length - (m'.out + 1)) + 1 by omega]
              simp only [pushL]
              rw [if_pos HMAY.out]
            case measure =>
              obtain ⟨h', W', hP', eL, eq, efk, hX, hY, hb⟩ := HA.out
              obtain ⟨h7, W7⟩ := H7.out
              have m1 := h7.back.c1
              have m2 := h'.back.c1
              rw [TV.fix_k W7.fix] at m1
              rw [efk] at m2
              rw [m1, m2]
              simp only [outOf]
              show m.q.length - (((m'.out + 1 : Nat) : Int)).toNat < m.q.length - ((m'.out : Int)).toNat
              omega
          · have hn : ¬ mayPush m' := fun h => ho h.2.2
            have hol : m'.out = m'.q.length := by omega
            have hbk : IsBack wx v'.k v'.q v'.ql 64 (m'.q.length : Int) m'.q := by have := h1.back; rw [hol] at this; exact this
            have hBN := back_Next_no wx v'.k v'.q v'.ql 64 m'.q hbk
            have HN : Hid (IsTie wx v' m' ∧ Went w wx v v' ∧ pushP m' ∧ (if 0 < (m'.vs - m'.va) % 128 ∧ tleft m'.tm 29 = 0 then startM m' 29 else m') = R) := Lib.hid ⟨h1, W1, hP', by have := HE8.out.1; rw [HE8.out.2 hn] at this; exact this⟩
            clear HE8 HA h' W' hP' eL eq efk hX hY hb h1 W1 et hf hn hbk hol ho hXw fP qP oP
            go_wp2_with fail
            refine hBN.mono ?_
            rintro e w4 ⟨sx, rfl, f4⟩
            have HN : Hid (IsTie w4 v' m' ∧ Went w w4 v v' ∧ pushP m' ∧ (if 0 < (m'.vs - m'.va) % 128 ∧ tleft m'.tm 29 = 0 then startM m' 29 else m') = R) := Lib.hid ⟨HN.out.1.fr0 f4, HN.out.2.1.fr0 f4, HN.out.2.2⟩
            clear hBN f4 c13
            obtain ⟨h8, W8, P8, E8⟩ := HN.out
            have hO8 := vars_Out v'.t (m'.cells v') m'.vs m'.vr m'.va w4 h8.v3
            rw [W8.t] at hO8
            clear h8 W8 P8 E8
            go_wp2_with fail
            refine hO8.mono ?_
            rintro e w5 ⟨rfl, f5⟩
            obtain ⟨h8, W8, P8, E8⟩ := HN.out
            have h9 := h8.fr0 f5
            have W9 := W8.fr0 f5
            have tm9 := P8.tm
            have rm9 := P8.room
            have ca1 := P8.ca1
            have ca2 := P8.ca2
            clear hO8 h8 W8 P8 f5
            by_cases hpos : 0 < (m'.vs - m'.va) % 128
            · have d8 : decide (0 < (m'.vs - m'.va) % 128) = true := by simpa using hpos
              have c15 := h9.c15
              rw [W9.t] at c15
              have hL := clk_Left w5 v'.c v'.cl 4 v'.now m'.tm 29 h9.clk tm9
              have H9 := Lib.hid (And.intro h9 (And.intro W9 (And.intro E8 hpos)))
              clear h9 W9 E8 hpos
              go_wp2_with fail
              refine hL.mono ?_
              rintro e w6 ⟨rfl, f6⟩
              by_cases hz : tleft m'.tm 29 = 0
              · have d9 : (tleft m'.tm 29 == 0) = true := by rw [beq_iff_eq]; exact hz
                obtain ⟨h9, W9, E8, hpos⟩ := H9.out
                have h10 := h9.fr0 f6
                have W10 := W9.fr0 f6
                have hst := tie_start w6 v' m' 29 h10
                rw [W10.t] at hst
                have eR : R = startM m' 29 := by rw [← E8, if_pos ⟨hpos, hz⟩]
                have HE := Lib.hid eR
                have H10 := Lib.hid (And.intro h10 W10)
                clear h9 W9 E8 hpos h10 W10 eR H9 hL f6 c15 hz
                go_wp2_with fail
                refine hst.mono ?_
                rintro e w7 ⟨b0, b1, b2, M, rfl, c0, c1, c2, hM, l0, l1, l2, l3, f7⟩
                obtain ⟨h10, W10⟩ := H10.out
                have h11 := h10.fr0 f7
                have W11 := W10.fr0 f7
                have hcl := tie_start1 w7 v' m' 29 b0 b1 b2 M h11 (by rw [W11.t]; exact c0) c1 c2 hM (by omega) (by omega) tm9 ca1 ca2 (fun hn => by
                  have : tstop m'.tm 29 = m'.tm := by
                    rcases tidx_cases m'.tm 29 with ⟨_, _, e, _⟩ | ⟨i, hi, _, e, _⟩
                    · exact e
                    · omega
                  rw [this] at rm9
                  omega)
                have HCL := Lib.hid hcl
                have HW := Lib.hid W11
                clear hst H10 h10 W10 h11 W11 hcl hM c0 c1 c2 l0 l1 l2 l3 f7
                go_wp2_with fail
                refine HCL.out.mono ?_
                rintro e w8 ⟨rfl, ht⟩
                obtain ⟨v9, h12, W12⟩ := HW.out.step ht
                have HFIN := Lib.hid (W12.to h12)
                rw [← HE.out] at HFIN
                clear h12 W12 ht HCL HW
                go_wp2
                go_end0
                exact ⟨rfl, HFIN.out⟩
              · have d9 : (tleft m'.tm 29 == 0) = false := by rw [beq_eq_false_iff_ne]; exact hz
                obtain ⟨h9, W9, E8, hpos⟩ := H9.out
                have HFIN := Lib.hid ((W9.fr0 f6).to (h9.fr0 f6))
                rw [show m' = R by rw [← E8, if_neg (fun h => hz h.2)]] at HFIN
                clear h9 W9 E8 hpos H9 hL f6 c15 hz
                go_wp2
                go_end0
                exact ⟨rfl, HFIN.out⟩
            · have d8 : decide (0 < (m'.vs - m'.va) % 128) = false := by simpa using hpos
              have HFIN := Lib.hid (W9.to h9)
              rw [show m' = R by rw [← E8, if_neg (fun h => hpos h.1)]] at HFIN
              clear h9 W9 E8 hpos
              go_wp2
              go_end0
              exact ⟨rfl, HFIN.out⟩
end Go.Proofs.YtneggoonlmmjeaaGreat
namespace Go.Proofs.YtneggoonlmmjeaaGreat
open Go.RowKit Go.Shelf
set_option linter.unusedVariables false
set_option linter.unusedSimpArgs false
set_option maxRecDepth 100000

def TM.cfg (m : TM) : Int × Int × Int × Int × Int × Int × Int × Int := (m.cw, m.ct, m.ca, m.cp, m.cr, m.cb, m.near, m.there)
/-- What a function value does to the connection at t, later. It holds blocks from B on, none of K. -/
def Deed (w : World) (B : Nat) (K : List Nat) (v0 : TV) (m0 : TM) (f : Value) (P : TM → Prop) (g : TM → TM) : Prop :=
  ∃ id ra lb, f = .func (.func id) ra lb ∧ Enters Tryz.prog id ∧ ∃ L : List Nat, (∀ x ∈ L, B ≤ x ∧ x < w.heap.size ∧ x ∉ K) ∧
    ∀ W v m, (∀ x ∈ L, W.heap[x]? = w.heap[x]?) → IsTie W v m → v.t = v0.t → v.fix = v0.fix → m.cfg = m0.cfg → (∀ x ∈ L, x ∉ v.foot) → P m →
      Calls Tryz.prog id (ra ++ #[] ++ lb) W fun e W' => e = .returned (.tuple #[]) ∧ TieTo W W' v (g m)
theorem Deed.push {w w' : World} {B : Nat} {K K' : List Nat} {v0 : TV} {m0 : TM} {f : Value} {P : TM → Prop} {g : TM → TM} (h : Deed w B K v0 m0 f P g) (fr : Fr K w w') (hK : ∀ x ∈ K', x ∈ K ∨ w.heap.size ≤ x) : Deed w' B K' v0 m0 f P g := by
  obtain ⟨id, ra, lb, e, he, L, hL, hm⟩ := h
  refine ⟨id, ra, lb, e, he, L, fun x hx => ?_, fun W v m hW => hm W v m fun x hx => (hW x hx).trans (fr.block x (hL x hx).2.1 (hL x hx).2.2)⟩
  obtain ⟨h1, h2, h3⟩ := hL x hx
  refine ⟨h1, Nat.lt_of_lt_of_le h2 fr.size, fun hm => ?_⟩
  rcases hK x hm with h4 | h4
  · exact h3 h4
  · omega
theorem cell_of {w W : World} {b i : Nat} {x : Value} (e : W.heap[b]? = w.heap[b]?) (h : w.cell? ⟨b, i, none⟩ = some x) : W.cell? ⟨b, i, none⟩ = some x := by
  rw [← h]
  exact World.cell?_of_block e
theorem Deed.mk0 {w : World} {B : Nat} {K : List Nat} {v0 : TV} {m0 : TM} {P : TM → Prop} {g : TM → TM} {id : FuncId} {ra : Array Value} (he : Enters Tryz.prog id)
    (hc : ∀ W v m, IsTie W v m → v.t = v0.t → v.fix = v0.fix → m.cfg = m0.cfg → P m → Calls Tryz.prog id ra W fun e W' => e = .returned (.tuple #[]) ∧ TieTo W W' v (g m)) : Deed w B K v0 m0 (.func (.func id) ra #[]) P g :=
  ⟨id, ra, #[], rfl, he, [], by simp, fun W v m _ h e1 e2 e3 _ hp => by simpa using hc W v m h e1 e2 e3 hp⟩
theorem Deed.mk1 {w : World} {B : Nat} {K : List Nat} {v0 : TV} {m0 : TM} {P : TM → Prop} {g : TM → TM} {id : FuncId} {b0 : Nat} {x0 : Value} {t0 : TypeId} (he : Enters Tryz.prog id) (h0 : Blk w b0 #[x0] t0) (hB : B ≤ b0) (hK : ∀ x ∈ K, x < B)
    (hc : ∀ W v m, W.cell? ⟨b0, 0, none⟩ = some x0 → IsTie W v m → v.t = v0.t → v.fix = v0.fix → m.cfg = m0.cfg → b0 ∉ v.foot → P m → Calls Tryz.prog id #[.pointer (some ⟨b0, 0, none⟩)] W fun e W' => e = .returned (.tuple #[]) ∧ TieTo W W' v (g m)) :
    Deed w B K v0 m0 (.func (.func id) #[] #[.pointer (some ⟨b0, 0, none⟩)]) P g :=
  ⟨id, #[], _, rfl, he, [b0], fun x hx => (by simp at hx; subst hx; exact ⟨hB, h0.lt, fun hm => by have := hK _ hm; omega⟩), fun W v m hW h e1 e2 e3 hf hp => by
    simpa using hc W v m (cell_of (hW b0 (by simp)) (h0.cell 0 rfl)) h e1 e2 e3 (hf _ (by simp)) hp⟩
theorem Deed.mk2 {w : World} {B : Nat} {K : List Nat} {v0 : TV} {m0 : TM} {P : TM → Prop} {g : TM → TM} {id : FuncId} {b0 b1 : Nat} {x0 x1 : Value} {t0 t1 : TypeId} (he : Enters Tryz.prog id) (h0 : Blk w b0 #[x0] t0) (h1 : Blk w b1 #[x1] t1) (hB : B ≤ b0) (hB1 : B ≤ b1) (hK : ∀ x ∈ K, x < B)
    (hc : ∀ W v m, W.cell? ⟨b0, 0, none⟩ = some x0 → W.cell? ⟨b1, 0, none⟩ = some x1 → IsTie W v m → v.t = v0.t → v.fix = v0.fix → m.cfg = m0.cfg → b0 ∉ v.foot → b1 ∉ v.foot → P m → Calls Tryz.prog id #[.pointer (some ⟨b0, 0, none⟩), .pointer (some ⟨b1, 0, none⟩)] W fun e W' => e = .returned (.tuple #[]) ∧ TieTo W W' v (g m)) :
    Deed w B K v0 m0 (.func (.func id) #[] #[.pointer (some ⟨b0, 0, none⟩), .pointer (some ⟨b1, 0, none⟩)]) P g :=
  ⟨id, #[], _, rfl, he, [b0, b1], fun x hx => (by simp at hx; rcases hx with rfl | rfl; exact ⟨hB, h0.lt, fun hm => by have := hK _ hm; omega⟩; exact ⟨hB1, h1.lt, fun hm => by have := hK _ hm; omega⟩), fun W v m hW h e1 e2 e3 hf hp => by
    simpa using hc W v m (cell_of (hW b0 (by simp)) (h0.cell 0 rfl)) (cell_of (hW b1 (by simp)) (h1.cell 0 rfl)) h e1 e2 e3 (hf _ (by simp)) (hf _ (by simp)) hp⟩
theorem Deed.mk3 {w : World} {B : Nat} {K : List Nat} {v0 : TV} {m0 : TM} {P : TM → Prop} {g : TM → TM} {id : FuncId} {b0 b1 b2 : Nat} {x0 x1 x2 : Value} {t0 t1 t2 : TypeId} (he : Enters Tryz.prog id) (h0 : Blk w b0 #[x0] t0) (h1 : Blk w b1 #[x1] t1) (h2 : Blk w b2 #[x2] t2) (hB : B ≤ b0) (hB1 : B ≤ b1) (hB2 : B ≤ b2) (hK : ∀ x ∈ K, x < B)
    (hc : ∀ W v m, W.cell? ⟨b0, 0, none⟩ = some x0 → W.cell? ⟨b1, 0, none⟩ = some x1 → W.cell? ⟨b2, 0, none⟩ = some x2 → IsTie W v m → v.t = v0.t → v.fix = v0.fix → m.cfg = m0.cfg → P m → Calls Tryz.prog id #[.pointer (some ⟨b0, 0, none⟩), .pointer (some ⟨b1, 0, none⟩), .pointer (some ⟨b2, 0, none⟩)] W fun e W' => e = .returned (.tuple #[]) ∧ TieTo W W' v (g m)) :
    Deed w B K v0 m0 (.func (.func id) #[] #[.pointer (some ⟨b0, 0, none⟩), .pointer (some ⟨b1, 0, none⟩), .pointer (some ⟨b2, 0, none⟩)]) P g :=
  ⟨id, #[], _, rfl, he, [b0, b1, b2], fun x hx => (by simp at hx; rcases hx with rfl | rfl | rfl; exact ⟨hB, h0.lt, fun hm => by have := hK _ hm; omega⟩; exact ⟨hB1, h1.lt, fun hm => by have := hK _ hm; omega⟩; exact ⟨hB2, h2.lt, fun hm => by have := hK _ hm; omega⟩), fun W v m hW h e1 e2 e3 hf hp => by
    simpa using hc W v m (cell_of (hW b0 (by simp)) (h0.cell 0 rfl)) (cell_of (hW b1 (by simp)) (h1.cell 0 rfl)) (cell_of (hW b2 (by simp)) (h2.cell 0 rfl)) h e1 e2 e3 hp⟩
theorem Deed.mkS {w : World} {B : Nat} {K : List Nat} {v0 : TV} {m0 : TM} {k : Int} {b0 b1 b2 M : Nat} (h0 : w.cell? ⟨b0, 0, none⟩ = some (.pointer (some ⟨v0.t, 0, none⟩))) (h1 : w.cell? ⟨b1, 0, none⟩ = some (.int .i64 k)) (h2 : w.cell? ⟨b2, 0, none⟩ = some (.map (some M))) (hM : TickMap w M m0) (hB : B ≤ b0) (hB1 : B ≤ b1) (hB2 : B ≤ b2) (hBM : B ≤ M) (hK : ∀ x ∈ K, x < B) (hk0 : 29 ≤ k) (hk1 : k ≤ 32) :
    Deed w B K v0 m0 (.func (.func 199) #[] #[.pointer (some ⟨b0, 0, none⟩), .pointer (some ⟨b1, 0, none⟩), .pointer (some ⟨b2, 0, none⟩)]) (fun m => m.tm.length ≤ 1000 ∧ 1 ≤ ticksM m k ∧ ticksM m k ≤ 10000 ∧ (tidx m.tm k < 0 → (m.tm.length : Int) < 4)) (fun m => startM m k) := by
  refine ⟨_, #[], _, rfl, enters_of Tryz.func199 (by kernel_rfl) rfl, [b0, b1, b2, M], fun x hx => ?_, fun W v m hW h e1 e2 e3 hf hp => ?_⟩
  · have lm : M < w.heap.size := by obtain ⟨l, c, e, _⟩ := hM; exact (Array.getElem?_eq_some_iff.1 e).1
    simp at hx
    rcases hx with rfl | rfl | rfl | rfl
    · exact ⟨hB, World.block_lt_of_cell? _ _ h0, fun hm => by have := hK _ hm; omega⟩
    · exact ⟨hB1, World.block_lt_of_cell? _ _ h1, fun hm => by have := hK _ hm; omega⟩
    · exact ⟨hB2, World.block_lt_of_cell? _ _ h2, fun hm => by have := hK _ hm; omega⟩
    · exact ⟨hBM, lm, fun hm => by have := hK _ hm; omega⟩
  · simp only [TM.cfg, Prod.mk.injEq] at e3
    obtain ⟨_, _, ea, epp, er, ebb, _⟩ := e3
    have hM' : TickMap W M m := by
      obtain ⟨l, c, e, g⟩ := hM
      exact ⟨l, c, (hW M (by simp)).trans e, by rw [ea, epp, er, ebb]; exact g⟩
    simpa using tie_start1 W v m k b0 b1 b2 M h (by rw [e1]; exact cell_of (hW b0 (by simp)) h0) (cell_of (hW b1 (by simp)) h1) (cell_of (hW b2 (by simp)) h2) hM' hk0 hk1 hp.1 hp.2.1 hp.2.2.1 hp.2.2.2

def slowM (m : TM) : TM := { m with wide := 1, count := 0 }
theorem tie_slow1 (w : World) (v : TV) (m : TM) (h : IsTie w v m) (hc : 1 ≤ m.cw) :
    Calls Tryz.prog 163 #[.pointer (some ⟨v.w, 0, none⟩)] w fun e w' => e = .returned (.tuple #[]) ∧ TieTo w w' v (slowM m) := by
  refine (win_Slow v.w m.cw m.wide m.count w h.win hc).mono ?_
  rintro e w2 ⟨rfl, hb, f⟩
  obtain ⟨h2, f2⟩ := h.setWin hb f
  exact ⟨rfl, TieTo.same h2 f2⟩

/-- What an action does. -/
def act (a : Int) (m : TM) : TM :=
  match a with
  | 0 => sendM m (cmdD m 3)
  | 1 => sendM m (cmdD m 4)
  | 2 => sendM m (rspD m 5)
  | 3 => sendM m (rspD m 6)
  | 5 => sayM m 5
  | 6 => sayM m 6
  | 7 => sayM m 7
  | 8 => sayM m 8
  | 9 => sayM m 9
  | 10 => clearM m
  | 12 => { m with tm := [] }
  | 13 => startM m 29
  | 14 => startM m 30
  | 15 => startM m 31
  | 16 => stopM m 31
  | 17 => startM m 32
  | 18 => takeM m
  | 19 => ackM m
  | 20 => peerM m false
  | 21 => peerM m true
  | 22 => goBackM m
  | 23 => sendM m (stsD m 0 false)
  | 24 => sendM m (stsD m 0 true)
  | 25 => sendM m (stsD m 1 false)
  | 26 => sendM m (stsD m 1 true)
  | 27 => sendM m (stsD m 2 false)
  | 28 => sendM m (stsD m 2 true)
  | 29 => askM m 0
  | 30 => askM m 1
  | 31 => pushM m
  | 32 => retryM m
  | 33 => zeroM m
  | 34 => slowM m
  | _ => m
/-- When it may be done. -/
def pre (a : Int) (m : TM) : Prop :=
  match a with
  | 0 => m.send.length ≤ 100000 ∧ 0 ≤ m.own ∧ m.own < 4294967296
  | 1 => m.send.length ≤ 100000 ∧ 0 ≤ m.own ∧ m.own < 4294967296
  | 2 => m.send.length ≤ 100000 ∧ 0 ≤ m.num ∧ m.num < 4294967296
  | 3 => m.send.length ≤ 100000 ∧ 0 ≤ m.num ∧ m.num < 4294967296
  | 5 => m.say.length ≤ 100000
  | 6 => m.say.length ≤ 100000
  | 7 => m.say.length ≤ 100000
  | 8 => m.say.length ≤ 100000
  | 9 => m.say.length ≤ 100000
  | 10 => m.q.length ≤ 1000 ∧ 0 ≤ m.epoch ∧ m.epoch ≤ 1000000
  | 12 => m.tm.length ≤ 1000
  | 13 => m.tm.length ≤ 1000 ∧ 1 ≤ ticksM m 29 ∧ ticksM m 29 ≤ 10000 ∧ (tidx m.tm 29 < 0 → (m.tm.length : Int) < 4)
  | 14 => m.tm.length ≤ 1000 ∧ 1 ≤ ticksM m 30 ∧ ticksM m 30 ≤ 10000 ∧ (tidx m.tm 30 < 0 → (m.tm.length : Int) < 4)
  | 15 => m.tm.length ≤ 1000 ∧ 1 ≤ ticksM m 31 ∧ ticksM m 31 ≤ 10000 ∧ (tidx m.tm 31 < 0 → (m.tm.length : Int) < 4)
  | 16 => m.tm.length ≤ 1000
  | 17 => m.tm.length ≤ 1000 ∧ 1 ≤ ticksM m 32 ∧ ticksM m 32 ≤ 10000 ∧ (tidx m.tm 32 < 0 → (m.tm.length : Int) < 4)
  | 18 => m.took.length ≤ 100000 ∧ ∃ d, m.p = some d ∧ d.info.length ≤ 100000
  | 19 => ackP m ∧ ∃ d, m.p = some d
  | 20 => m.tm.length ≤ 1000
  | 21 => m.tm.length ≤ 1000
  | 22 => m.tm.length ≤ 1000
  | 23 => m.send.length ≤ 100000
  | 24 => m.send.length ≤ 100000
  | 25 => m.send.length ≤ 100000
  | 26 => m.send.length ≤ 100000
  | 27 => m.send.length ≤ 100000
  | 28 => m.send.length ≤ 100000
  | 29 => m.send.length ≤ 100000 ∧ m.tm.length ≤ 1000
  | 30 => m.send.length ≤ 100000 ∧ m.tm.length ≤ 1000
  | 31 => pushP m
  | 32 => 0 ≤ m.retries ∧ m.retries ≤ 1000000
  | 33 => m.tm.length ≤ 1000
  | 34 => 1 ≤ m.cw
  | _ => False

end Go.Proofs.YtneggoonlmmjeaaGreat
