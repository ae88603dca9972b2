/- The functions of package window: what each call comes to, at a window in memory. -/
import Derived.Test.YtlhfdfjjploboaaProg
import Derived.Test.YtlhfdfjjploboaaMix
import Derived.WalkLawsBesides
import Derived.WalkSpells
import Derived.OwnWalk
import Derived.Outline
import Derived.Lib.Hide
namespace Go.Proofs.Ytlhfdfjjploboaa
open Go.RowKit Go.Shelf
set_option linter.unusedVariables false
set_option linter.unusedSimpArgs false
attribute [local go_sem] Oper.semAt_some

/-- Block b is three numbers: how wide at most, how wide, what is counted. -/
def Is3 (t : TypeId) (w : World) (b : Nat) (s r a : Int) : Prop := Blk w b #[.int .i64 s, .int .i64 r, .int .i64 a] t
abbrev IsW := Is3 49
abbrev IsM := Is3 44

theorem Is3.c0 {t : TypeId} {w : World} {b : Nat} {s r a : Int} (h : Is3 t w b s r a) : w.cell? ⟨b, 0, none⟩ = some (.int .i64 s) := Blk.cell h 0 rfl
theorem Is3.c1 {t : TypeId} {w : World} {b : Nat} {s r a : Int} (h : Is3 t w b s r a) : w.cell? ⟨b, 1, none⟩ = some (.int .i64 r) := Blk.cell h 1 rfl
theorem Is3.c2 {t : TypeId} {w : World} {b : Nat} {s r a : Int} (h : Is3 t w b s r a) : w.cell? ⟨b, 2, none⟩ = some (.int .i64 a) := Blk.cell h 2 rfl
theorem Is3.f {t : TypeId} {w : World} {b : Nat} {s r a : Int} (h : Is3 t w b s r a) (i : Nat) : w.frozen? ⟨b, i, none⟩ = false := Blk.free h i
theorem Is3.fr {t : TypeId} {w w' : World} {b : Nat} {s r a : Int} (h : Is3 t w b s r a) {L : List Nat} (k : Fr L w w') (hn : b ∉ L) : Is3 t w' b s r a := Blk.fr h k hn
theorem Is3.al {t : TypeId} {w : World} {b : Nat} {s r a : Int} (h : Is3 t w b s r a) (o : Obj) : Is3 t (w.alloc o) b s r a := Blk.alloc h o
theorem Is3.s0 {t : TypeId} {w : World} {b : Nat} {s r a : Int} (h : Is3 t w b s r a) (x : Int) : Is3 t (w.setCell ⟨b, 0, none⟩ (.int .i64 x)) b x r a := Blk.set h 0 _ rfl
theorem Is3.s1 {t : TypeId} {w : World} {b : Nat} {s r a : Int} (h : Is3 t w b s r a) (x : Int) : Is3 t (w.setCell ⟨b, 1, none⟩ (.int .i64 x)) b s x a := Blk.set h 1 _ rfl
theorem Is3.s2 {t : TypeId} {w : World} {b : Nat} {s r a : Int} (h : Is3 t w b s r a) (x : Int) : Is3 t (w.setCell ⟨b, 2, none⟩ (.int .i64 x)) b s r x := Blk.set h 2 _ rfl
theorem Fr.set1 {w w' : World} {b : Nat} (h : Fr [b] w w') (i : Nat) (v : Value) : Fr [b] w (w'.setCell ⟨b, i, none⟩ v) := h.setCell _ (.inl (by simp))
theorem Fr.to1 {w w' : World} (b : Nat) (h : Fr [] w w') : Fr [b] w w' := h.mono (by simp)
theorem Fr.tr {L : List Nat} {a b c : World} (h : Fr L a b) (k : Fr L b c) : Fr L a c := h.trans k (fun _ hx => .inl hx)
theorem Fr.tr0 {L : List Nat} {a b c : World} (h : Fr L a b) (k : Fr [] b c) : Fr L a c := h.trans k (fun _ hx => by cases hx)

theorem win_Now (b : Nat) (m d c : Int) (w : World) (h : IsW w b m d c) :
    Calls Try.prog 24 #[.pointer (some ⟨b, 0, none⟩)] w fun e w' => e = .returned (.int .i64 d) ∧ w = w' := by
  have h1 := h.c1
  go_enter Try.func24, Try.ntmps24
  go_wp2
  go_ret
  exact ⟨rfl, rfl⟩

theorem win_Slow (b : Nat) (m d c : Int) (w : World) (h : IsW w b m d c) (hm : 1 ≤ m) :
    Calls Try.prog 25 #[.pointer (some ⟨b, 0, none⟩)] w fun e w' => e = .returned (.tuple #[]) ∧ IsW w' b m 1 0 ∧ Fr [b] w w' := by
  have h0 := h.c0
  have h1 := h.c1
  have h2 := h.c2
  have f1 := h.f 1
  have f2 := h.f 2
  have hmin : min 1 m = 1 := by omega
  go_enter Try.func25, Try.ntmps25
  go_wp2
  go_end0
  exact ⟨rfl, (h.s1 _).s2 _, ((Fr.refl _ _).set1 _ _).set1 _ _⟩

theorem win_Fresh (b : Nat) (m d c : Int) (w : World) (h : IsW w b m d c) :
    Calls Try.prog 30 #[.pointer (some ⟨b, 0, none⟩)] w fun e w' => e = .returned (.tuple #[]) ∧ IsW w' b m m 0 ∧ Fr [b] w w' := by
  have h0 := h.c0
  have h1 := h.c1
  have h2 := h.c2
  have f1 := h.f 1
  have f2 := h.f 2
  go_enter Try.func30, Try.ntmps30
  go_wp2
  go_end0
  exact ⟨rfl, (h.s1 _).s2 _, ((Fr.refl _ _).set1 _ _).set1 _ _⟩

theorem win_steps (b : Nat) (n : Int) (w : World) :
    Calls Try.prog 34 #[.pointer (some ⟨b, 0, none⟩), .int .i64 n] w fun e w' =>
      e = .returned (.func (.func 35) #[] #[.pointer (some ⟨w.heap.size + 1, 0, none⟩), .pointer (some ⟨w.heap.size, 0, none⟩)]) ∧
      w' = (w.alloc (.cells #[.pointer (some ⟨b, 0, none⟩)] 28)).alloc (.cells #[.int .i64 n] 3) := by
  go_enter Try.func34, Try.ntmps34
  go_wp2
  go_ret
  exact ⟨rfl, rfl⟩

theorem win_New_no (n : Int) (w : World) (hn : n < 1 ∨ 64 < n) :
    Calls Try.prog 23 #[.int .i64 n] w fun e w' => e = .returned (.tuple #[.pointer none, .int .i64 1]) ∧ w = w' := by
  rcases hn with hn | hn
  · go_enter Try.func23, Try.ntmps23
    go_wp2
    go_ret2
    exact ⟨rfl, rfl⟩
  · have h1 : ¬ n < 1 := by omega
    have h2 : decide (n < 1) = false := by simpa using h1
    go_enter Try.func23, Try.ntmps23
    go_wp2
    go_ret2
    exact ⟨rfl, rfl⟩

theorem win_New_yes (n : Int) (w : World) (h1 : 1 ≤ n) (h2 : n ≤ 64) :
    Calls Try.prog 23 #[.int .i64 n] w fun e w' => e = .returned (.tuple #[.pointer (some ⟨w.heap.size, 0, none⟩), .int .i64 0]) ∧ IsW w' w.heap.size n n 0 ∧ Fr [] w w' := by
  have d1 : decide (n < 1) = false := by simp; omega
  have d2 : decide (64 < n) = false := by simp; omega
  go_enter Try.func23, Try.ntmps23
  go_wp2
  go_ret2
  exact ⟨rfl, Blk.new _ _ _, (Fr.refl _ _).alloc _⟩

/-- How a window opens by one that came through. -/
structure WS where
  d : Int
  c : Int
  i : Int
def WS.next (s : WS) : WS := if s.c + 1 = s.d then ⟨s.d + 1, 0, s.i + 1⟩ else ⟨s.d, s.c + 1, s.i + 1⟩
theorem WS.next_i (s : WS) : s.next.i = s.i + 1 := by unfold WS.next; split <;> rfl

def WCore (m n : Int) (b Bn Bp : Nat) (s : WS) (W : World) : Prop :=
  IsW W b m s.d s.c ∧ Blk W Bn #[.int .i64 n] 3 ∧ Blk W Bp #[.pointer (some ⟨b, 0, none⟩)] 28

set_option maxHeartbeats 1000000 in
theorem win_iter (m n : Int) (b Bn Bp : Nat) (hn : n ≤ 4611686018427387904) (l : Nat) (J : WS → World → Prop) (hJ : ∀ s W, J s W → WCore m n b Bn Bp s W) (hd : ∀ s W k, J s W → J s (W.drewN k))
    (hY : ∀ s W, J s W → (s.i < n ∧ s.d < m) → YieldAt Fence.wide 0 Try.prog l #[.int .i64 s.i] W fun e W' => e = .returned (.bool true) ∧ J s.next W') (s0 : WS) (hs0 : s0.i = 0) (W : World) (h0 : J s0 W) :
    CallsIn Fence.wide 0 Try.prog 35 #[.func (.yield l) #[] #[], .pointer (some ⟨Bn, 0, none⟩), .pointer (some ⟨Bp, 0, none⟩)] W fun e W' => (∃ v, e = .returned v) ∧ ∃ s : WS, ¬ (s.i < n ∧ s.d < m) ∧ J s W' := by
  refine callsIn_of_wp Try.func35 rfl trivial ?_ rfl
  simp only [Try.ntmps35, List.size_toArray, List.length_cons, List.length_nil, Nat.reduceAdd, Nat.reduceSub, Array.replicate_succ, Array.replicate_zero, List.push_toArray, List.append_toArray, List.nil_append, List.cons_append]
  gi_wp2
  gi_loopw [4] (fun i wr => ∃ s : WS, i = .int .i64 s.i ∧ 0 ≤ s.i ∧ J s wr) (fun i _ => (n - intOf i).toNat)
  case atStart => exact ⟨s0, by rw [hs0], by omega, h0⟩
  case round =>
    obtain ⟨s, rfl, hi, hj⟩ := hrel
    obtain ⟨hw, hbn, hbp⟩ := hJ s wr hj
    have cn := hbn.cell 0 rfl
    have cp := hbp.cell 0 rfl
    have c0 := hw.c0
    have c1 := hw.c1
    simp only [List.getElem_toArray, List.getElem_cons_zero] at cn cp
    by_cases h1 : s.i < n
    · by_cases h2 : s.d < m
      · have d1 : decide (s.i < n) = true := by simpa using h1
        have d2 : decide (s.d < m) = true := by simpa using h2
        gi_wp2
        refine wpIn_wide.2 ?_
        go_quiet (fail)
        obtain ⟨fn, tmps, assign, body, hy, hR⟩ := hY s (wr.drewN nq) (hd s wr nq hj) ⟨h1, h2⟩
        gi_wp2
        refine ⟨rfl, hR.mono ?_⟩
        rintro e W2 ⟨rfl, hJ2⟩
        gi_wp2
        go_roundw
        case rel => exact ⟨s.next, by rw [WS.next_i], by rw [WS.next_i]; omega, hJ2⟩
        case measure => simp [intOf]; omega
      · have d1 : decide (s.i < n) = true := by simpa using h1
        have d2 : decide (s.d < m) = false := by simpa using h2
        gi_wp2
        refine wpIn_wide.2 ?_
        go_quiet (fail)
        gi_wp2
        go_end0
        exact ⟨⟨_, rfl⟩, s, by omega, hd _ _ _ hj⟩
    · have d1 : decide (s.i < n) = false := by simpa using h1
      gi_wp2
      refine wpIn_wide.2 ?_
      go_quiet (fail)
      gi_wp2
      go_end0
      exact ⟨⟨_, rfl⟩, s, by omega, hd _ _ _ hj⟩
/-- So often as told, while it is not most wide. -/
def wfin (m n : Int) : Nat → WS → WS
  | 0, s => s
  | k + 1, s => if s.i < n ∧ s.d < m then wfin m n k s.next else s
def ackedW (m n d c : Int) : WS := wfin m n n.toNat ⟨d, c, 0⟩

theorem keepsDrewN {a w : World} (h : KeepsOthers a w) (n : Nat) : KeepsOthers a (w.drewN n) := ⟨h.size, fun k o hk ho => h.same k o hk ho⟩
theorem Blk.put {w : World} {b : Nat} {cs : Array Value} {t : TypeId} (h : Blk w b cs t) {l : Nat} {o : Obj} (o' : Obj) (ho : w.heap[l]? = some o) (hc : o.isCells = false) : Blk (w.putObj l o') b cs t := by
  have hne : b ≠ l := by
    intro e; subst e; rw [Blk] at h; rw [h] at ho; cases ho; cases hc
  rw [Blk, World.putObj_heap_other hne]; exact h
theorem Fr.put {L : List Nat} {a w : World} (h : Fr L a w) {l : Nat} (o' : Obj) (hl : a.heap.size ≤ l) : Fr L a (w.putObj l o') :=
  h.trans (M := [l]) ⟨rfl, rfl, rfl, by simp, fun k _ hn => World.putObj_heap_other (by simpa using hn)⟩ (fun x hx => by simp at hx; subst hx; exact .inr hl)

set_option maxRecDepth 100000 in
set_option maxHeartbeats 2000000 in
theorem win_Acked (b : Nat) (m d c n : Int) (w : World) (h : IsW w b m d c) (hm : m ≤ 64) (hd0 : 0 ≤ d) (hc0 : 0 ≤ c) (hc1 : c ≤ 64) (hn : n ≤ 4611686018427387904) :
    Calls Try.prog 26 #[.pointer (some ⟨b, 0, none⟩), .int .i64 n] w fun e w' => e = .returned (.tuple #[]) ∧ IsW w' b m (ackedW m n d c).d (ackedW m n d c).c ∧ Fr [b] w w' := by
  refine (callsIn_wide (n := 0)).1 ?_
  refine callsIn_of_wp_marks Try.func26 rfl trivial ?_ rfl
  simp only [Try.ntmps26, List.size_toArray, List.length_cons, List.length_nil, Nat.reduceAdd, Nat.reduceSub, Array.replicate_succ, Array.replicate_zero, List.push_toArray, List.append_toArray, List.nil_append, List.cons_append]
  refine wpIn_wide.2 ?_
  have hbx := Blk.new w #[.pointer (some ⟨b, 0, none⟩)] 28
  have hbl := h.lt
  go_wp2_with fail
  refine (win_steps _ _ _).mono ?_
  rintro e w1 ⟨rfl, rfl⟩
  go_wp2
  obtain ⟨R, hR⟩ : ∃ R, ackedW m n d c = R := ⟨_, rfl⟩
  have b1 := Blk.new (w.alloc (.cells #[.pointer (some ⟨b, 0, none⟩)] 28)) #[.pointer (some ⟨b, 0, none⟩)] 28
  have b2 := Blk.new ((w.alloc (.cells #[.pointer (some ⟨b, 0, none⟩)] 28)).alloc (.cells #[.pointer (some ⟨b, 0, none⟩)] 28)) #[.int .i64 n] 3
  simp only [World.size_alloc] at b1 b2
  have b0' := (hbx.alloc (.cells #[.pointer (some ⟨b, 0, none⟩)] 28)).alloc (.cells #[.int .i64 n] 3)
  have b1' := b1.alloc (.cells #[.int .i64 n] 3)
  have h' := ((h.al (.cells #[.pointer (some ⟨b, 0, none⟩)] 28)).al (.cells #[.pointer (some ⟨b, 0, none⟩)] 28)).al (.cells #[.int .i64 n] 3)
  have f' := ((((Fr.refl [b] w).alloc (.cells #[.pointer (some ⟨b, 0, none⟩)] 28)).alloc (.cells #[.pointer (some ⟨b, 0, none⟩)] 28)).alloc (.cells #[.int .i64 n] 3))
  have hsz : (((w.alloc (.cells #[.pointer (some ⟨b, 0, none⟩)] 28)).alloc (.cells #[.pointer (some ⟨b, 0, none⟩)] 28)).alloc (.cells #[.int .i64 n] 3)).heap.size = w.heap.size + 3 := by simp
  generalize (((w.alloc (.cells #[.pointer (some ⟨b, 0, none⟩)] 28)).alloc (.cells #[.pointer (some ⟨b, 0, none⟩)] 28)).alloc (.cells #[.int .i64 n] 3)) = W0 at *
  have ht : ackedW m n d c = wfin m n n.toNat ⟨d, c, 0⟩ := rfl
  have hR' : wfin m n (n - 0).toNat ⟨d, c, 0⟩ = R := by rw [← hR, ht]; congr 1; omega
  refine wp_rangeFunc_off (σ := WS) (gf := 35) (lb := #[.pointer (some ⟨w.heap.size + 1 + 1, 0, none⟩), .pointer (some ⟨w.heap.size + 1, 0, none⟩)]) rfl (enters_of Try.func35 (by kernel_rfl) rfl)
    (fun s W => WCore m n b (w.heap.size + 1 + 1) (w.heap.size + 1) s W ∧ Blk W w.heap.size #[.pointer (some ⟨b, 0, none⟩)] 28 ∧ wfin m n (n - s.i).toNat s = R ∧ (0 ≤ s.i ∧ 0 ≤ s.c ∧ s.c ≤ 64 + s.i ∧ 0 ≤ s.d) ∧ Fr [b] w W)
    ?hI ?hA ⟨d, c, 0⟩ ⟨⟨h', b2, b1'⟩, b0', hR', by simp; omega, f'⟩ (fun s => #[.int .i64 s.i]) (fun _ => rfl) (fun s => s.i < n ∧ s.d < m) WS.next ?iter ?drew
    (fun s => { tmps := #[.pointer (some ⟨b, 0, none⟩), .int .i64 n, .pointer (some ⟨w.heap.size, 0, none⟩), undef, .pointer (some ⟨b, 0, none⟩), .bool false, .pointer (some ⟨b, 0, none⟩), .int .i64 n, .func (.func 35) #[] #[.pointer (some ⟨w.heap.size + 1 + 1, 0, none⟩), .pointer (some ⟨w.heap.size + 1, 0, none⟩)], .int .i64 s.i, undef, undef, undef, undef, undef, undef, undef, undef, undef, undef, undef, undef, undef, undef, undef, undef, undef, undef, undef, undef, undef, undef, undef, undef, undef, undef, undef], defers := [] }) ?assign ?body ?done
  case hI =>
    rintro s W l o o' ⟨⟨i1, i2, i3⟩, i4, i5, i6, i7⟩ hl ho hc _
    exact ⟨⟨Blk.put i1 o' ho hc, Blk.put i2 o' ho hc, Blk.put i3 o' ho hc⟩, Blk.put i4 o' ho hc, i5, i6, i7.put o' (by omega)⟩
  case hA =>
    rintro s W o ⟨⟨i1, i2, i3⟩, i4, i5, i6, i7⟩
    exact ⟨⟨i1.al _, i2.alloc _, i3.alloc _⟩, i4.alloc _, i5, i6, i7.alloc _⟩
  case drew =>
    rintro s W k ⟨⟨i1, i2, i3⟩, i4, i5, i6, i7⟩
    exact ⟨⟨i1, i2, i3⟩, i4, i5, i6, i7.drewN k⟩
  case iter =>
    intro l J W hJ hd hY hj0
    exact win_iter m n b _ _ hn l J (fun s W h => (hJ s W h).1) hd (fun s W hj hmore => hY s W hj hmore) _ rfl W hj0
  case assign =>
    intro l s W K hK
    gi_wp2
    exact hK
  case body =>
    rintro l ⟨d', c', i'⟩ W ⟨⟨i1, i2, i3⟩, i4, i5, ⟨i60, i61, i62, i63⟩, i7⟩ ⟨hm1, hm2⟩
    simp only at i1 i5 i60 i61 i62 i63 hm1 hm2 ⊢
    have cp := i4.cell 0 rfl
    simp only [List.getElem_toArray, List.getElem_cons_zero] at cp
    have e1 := i1.c1
    have e2 := i1.c2
    have ef1 := i1.f 1
    have ef2 := i1.f 2
    have hbS : b ≠ w.heap.size := by omega
    have hbB1 : b ≠ w.heap.size + 1 := by omega
    have hbB2 : b ≠ w.heap.size + 1 + 1 := by omega
    gi_wp2
    have k1 := i1.s2 (c' + 1)
    have k2 := i2.far (p := ⟨b, 2, none⟩) (Ne.symm hbB2) (.int .i64 (c' + 1))
    have k3 := i3.far (p := ⟨b, 2, none⟩) (Ne.symm hbB1) (.int .i64 (c' + 1))
    have k4 := i4.far (p := ⟨b, 2, none⟩) (Ne.symm hbS) (.int .i64 (c' + 1))
    have k7 := i7.set1 2 (.int .i64 (c' + 1))
    have k8 : KeepsOthers W (W.setCell ⟨b, 2, none⟩ (.int .i64 (c' + 1))) := KeepsOthers.setCell _ _ _
    clear e1 e2 ef1 ef2 cp i1 i2 i3 i4 i7
    generalize W.setCell ⟨b, 2, none⟩ (.int .i64 (c' + 1)) = W1 at *
    have cp := k4.cell 0 rfl
    simp only [List.getElem_toArray, List.getElem_cons_zero] at cp
    have e1 := k1.c1
    have e2 := k1.c2
    have ef1 := k1.f 1
    have ef2 := k1.f 2
    by_cases hcd : c' + 1 = d'
    · have hb : (c' + 1 == d') = true := by rw [beq_iff_eq]; exact hcd
      have i5' : wfin m n (n - (i' + 1)).toNat ⟨d' + 1, 0, i' + 1⟩ = R := by
        rw [← i5, show (n - i').toNat = (n - (i' + 1)).toNat + 1 by omega]
        simp only [wfin, WS.next]
        rw [if_pos ⟨hm1, hm2⟩, if_pos hcd]
      clear i5
      have hcd' : Hid (c' + 1 = d') := hcd
      clear hcd
      refine wpIn_region_quiet_round (by kernel_rfl) (by kernel_rfl) (by kernel_rfl) (fun ⟨_, _, h⟩ => h) ?_
      repeat (go_big_quiet_step (fail))
      refine wpQuiet_nil ?_
      rintro _ ⟨nq, rfl⟩
      have hw1 : IntKind.i64.wrap (d' + 1) = d' + 1 := IntWalk.i64_in _ (by omega)
      gi_wp2
      have hp0 : (W1.drewN nq).drew.cell? ⟨w.heap.size, 0, none⟩ = some (.pointer (some ⟨b, 0, none⟩)) := cp
      haveI : Nonempty (Held fun w' => w'.cell? ⟨w.heap.size, 0, none⟩ = some (.pointer (some ⟨b, 0, none⟩))) := ⟨⟨_, hp0⟩⟩
      have hcb : ∀ n : Held fun w' => w'.cell? ⟨w.heap.size, 0, none⟩ = some (.pointer (some ⟨b, 0, none⟩)), n.x.cell? ⟨w.heap.size, 0, none⟩ = some (.pointer (some ⟨b, 0, none⟩)) := fun n => n.ok
      refine wpIn_region_mix (fun x => ∃ n : Held fun w' => w'.cell? ⟨w.heap.size, 0, none⟩ = some (.pointer (some ⟨b, 0, none⟩)), x = n.x) [some 5, none, some 3, none, some 2, none] (by kernel_rfl) (by kernel_rfl) (by kernel_rfl) (by kernel_rfl) ⟨⟨_, hp0⟩, rfl⟩ ?_
      simp only [wpMix, List.take_succ_cons, List.take_zero, List.drop_succ_cons, List.drop_zero]
      repeat (go_big_quiet_step (fail))
      refine wpQuiet_nil ?_
      go_wp2
      refine ⟨⟨⟨_, hp0⟩, rfl⟩, ?_⟩
      simp only []
      repeat (go_big_quiet_step (fail))
      refine wpQuiet_nil ?_
      go_wp2
      have k4d : Blk (W1.drewN (nq + 1)) w.heap.size #[.pointer (some ⟨b, 0, none⟩)] 28 := k4
      have k4a := k4d.far (p := ⟨b, 1, none⟩) (Ne.symm hbS) (.int .i64 (d' + 1))
      refine ⟨⟨⟨_, k4a.cell 0 rfl⟩, rfl⟩, ?_⟩
      simp only []
      repeat (go_big_quiet_step (fail))
      refine wpQuiet_nil ?_
      go_wp2
      have k4b := k4a.far (p := ⟨b, 2, none⟩) (Ne.symm hbS) (.int .i64 0)
      refine ⟨⟨⟨_, k4b.cell 0 rfl⟩, rfl⟩, ?_⟩
      simp only []
      have hnx : WS.next ⟨d', c', i'⟩ = ⟨d' + 1, 0, i' + 1⟩ := by unfold WS.next; rw [if_pos hcd'.out]
      have HN := Lib.hid hnx
      clear hnx
      gi_wp2
      show KeepsOthers _ _ ∧ _
      rw [HN.out]
      refine ⟨((keepsDrewN k8 (nq + 1)).trans (KeepsOthers.setCell _ _ _)).trans (KeepsOthers.setCell _ _ _), ⟨(k1.s1 _).s2 _, (k2.far (Ne.symm hbB2) _).far (Ne.symm hbB2) _, (k3.far (Ne.symm hbB1) _).far (Ne.symm hbB1) _⟩, k4b, i5', ⟨by simp only; omega, by simp only; omega, by simp only; omega, by simp only; omega⟩, ?_⟩
      exact (((k7.drewN (nq + 1))).set1 _ _).set1 _ _
    · have hb : (c' + 1 == d') = false := by rw [beq_eq_false_iff_ne]; exact hcd
      have i5' : wfin m n (n - (i' + 1)).toNat ⟨d', c' + 1, i' + 1⟩ = R := by
        rw [← i5, show (n - i').toNat = (n - (i' + 1)).toNat + 1 by omega]
        simp only [wfin, WS.next]
        rw [if_pos ⟨hm1, hm2⟩, if_neg hcd]
      clear i5
      have hnx : WS.next ⟨d', c', i'⟩ = ⟨d', c' + 1, i' + 1⟩ := by unfold WS.next; rw [if_neg hcd]
      refine wpIn_region_quiet_round (by kernel_rfl) (by kernel_rfl) (by kernel_rfl) (fun ⟨_, _, h⟩ => h) ?_
      repeat (go_big_quiet_step (fail))
      refine wpQuiet_nil ?_
      rintro _ ⟨nq, rfl⟩
      have HN := Lib.hid hnx
      clear hnx
      gi_wp2
      show KeepsOthers _ _ ∧ _
      rw [HN.out]
      exact ⟨keepsDrewN k8 nq, ⟨k1, k2, k3⟩, k4, i5', ⟨by simp only; omega, by simp only; omega, by simp only; omega, by simp only; omega⟩, k7.drewN nq⟩
  case done =>
    rintro D ⟨d', c', i'⟩ W hD hmore ⟨⟨i1, i2, i3⟩, i4, i5, i6, i7⟩ hK
    go_wp2
    have hfin : R = ⟨d', c', i'⟩ := by
      rw [← i5]
      cases (n - i').toNat with
      | zero => rfl
      | succ k => simp only [wfin]; rw [if_neg hmore]
    refine ⟨by simp, .inl ⟨_, _, rfl, run_takeDeferred hK, ?_⟩⟩
    rw [hfin]
    exact ⟨_, results_none rfl _ _ _, rfl, Blk.put i1 _ hK rfl, i7.put _ (by omega)⟩
end Go.Proofs.Ytlhfdfjjploboaa
