/- A datagram is told to each SAP that hears it. -/
import Derived.Test.YtgmpikaibeenmaaPlainR
import Derived.Test.YtgmpikaibeenmaaSapsQ
import Derived.Test.YtgmpikaibeenmaaArr
import Derived.ChangeKeysEq
namespace Go.Proofs.Ytgmpikaibeenmaa
open Go.RowKit Go.Shelf Go.ChangeMaps Go.ChangeShapes Go.WideShapes Go.ChangeAt
set_option linter.unusedVariables false
set_option linter.unusedSimpArgs false
set_option maxRecDepth 100000

/-- An argument by value: two bytes and a slice of bytes that may be nil. -/
theorem uus_open {H : Type} {enc : TypeId × Value → H} {P : Program} {w : World} {base : Nat} {spare : Nat → Bool} {held : Bool} {t e : TypeId} {fs : Array Field} {cs : Array Value} {d : DataW H} {p : List MemPlace}
    (he : P.underlying t = some (.struct fs)) (hC : P.cellsOf t = 3)
    (h0 : ∃ f, fs[0]? = some f ∧ f.offset = 0 ∧ P.cellsOf f.type = 1 ∧ P.underlying f.type = some (.int .u8)) (h1 : ∃ f, fs[1]? = some f ∧ f.offset = 1 ∧ P.cellsOf f.type = 1 ∧ P.underlying f.type = some (.int .u8))
    (h2 : ∃ f, fs[2]? = some f ∧ f.offset = 2 ∧ P.cellsOf f.type = 1 ∧ P.underlying f.type = some (.slice e)) (hu : P.underlying e = some (.int .u8)) (hc : P.cellsOf e = 1)
    (h : DataW.Trod enc P w base spare held t (.agg cs) d p) :
    ∃ (a b : Int) (s : Sl) (l : List Int), cs = #[.int .u8 a, .int .u8 b, .slice s.A s.n s.c] ∧ (Lit.int .u8 a).wf = true ∧ (Lit.int .u8 b).wf = true ∧ l.length ≤ 9223372036854775807 ∧ Ints .u8 w s.v l := by
  obtain ⟨fuel, hf⟩ := h
  obtain ⟨xs, n', _, _, hcl, hxl, hfld⟩ := DataW.trod_struct he hf
  have hsz : cs.size = 3 := by rw [hC] at hcl; simpa [Value.cells] using hcl
  obtain ⟨l⟩ := cs
  match l, hsz with
  | [v0, v1, v2], _ =>
  simp only [Value.cells] at hfld
  obtain ⟨f0, g0, o0, c0, u0⟩ := h0
  obtain ⟨f1, g1, o1, c1, u1⟩ := h1
  obtain ⟨f2, g2, o2, c2, u2⟩ := h2
  have t0 := hfld 0 f0 g0
  have t1 := hfld 1 f1 g1
  have t2 := hfld 2 f2 g2
  have hl : fs.size ≤ xs.length := by omega
  have hfs : 2 < fs.size := (Array.getElem?_eq_some_iff.1 g2).1
  rw [o0, c0, List.getElem?_eq_getElem (by omega)] at t0
  rw [o1, c1, List.getElem?_eq_getElem (by omega)] at t1
  rw [o2, c2, List.getElem?_eq_getElem (by omega)] at t2
  obtain ⟨a, ha, _, hwa⟩ := DataW.trod_int u0 t0
  obtain ⟨b, hb, _, hwb⟩ := DataW.trod_int u1 t1
  simp at ha hb
  subst ha
  subst hb
  rcases open_ints u2 hu hc t2 with ⟨hcs, _⟩ | ⟨x, l, c, zs, hcs, _, hl, hm, hz, _, hcell, hwz⟩
  · simp [Value.cells] at hcs
    subst hcs
    exact ⟨a, b, Sl.nil, [], rfl, hwa, hwb, by simp, .inl ⟨rfl, rfl⟩⟩
  · simp [Value.cells] at hcs
    subst hcs
    unfold maxLen at hm
    have hle : l ≤ zs.length := by rw [hz]; split <;> omega
    have hlen : (zs.take l).length = l := by simp; omega
    exact ⟨a, b, ⟨_, l, c⟩, zs.take l, rfl, hwa, hwb, by omega, .inr ⟨_, _, by rw [hlen], ArgInts.of l hle hcell hwz⟩⟩

theorem eqA6 (a b c d e f : Int) (w : World) : (Op.equalIn 10000 37 (.agg #[.int .u8 a, .int .u8 b, .int .u8 c, .int .u8 d, .int .u8 e, .int .u8 f]) (.agg #[.int .u8 a, .int .u8 b, .int .u8 c, .int .u8 d, .int .u8 e, .int .u8 f])).run Try.prog w = .ok true w := by
  obtain ⟨i, hi, _⟩ := info_parts (show (Try.prog.info? 5).map (fun i => (i.zero, i.size, i.bytes)) = some (some (.int .u8 0), 1, 1) by kernel_rfl)
  have hu : Try.prog.underlying 37 = some (.array 6 5) := by kernel_rfl
  have he : Try.prog.underlying 5 = some (.int .u8) := by kernel_rfl
  have hc : Try.prog.cellsOf 5 = 1 := by kernel_rfl
  rw [run_equalIn_array w 9999 _ _ hu hi, hc]
  simp [Op.eqItems, List.range_succ_eq_map, part, isAgg, run_underlying he, run_equalIn_int _ _ _ _ _ _ _ he]
attribute [local go_sem] eqA6
theorem may_ui (to fr : Int) (l : List Int) (h0 : 0 ≤ to) (h1 : to ≤ 255) (hf0 : 0 ≤ fr) (hf : fr ≤ 254) (he : fr % 2 = 0) (hl : l.length ≤ 1024) : mayB ⟨to, fr, false, 2, 0, 0, 0, false, l⟩ = true := by
  simp [mayB, kindB, within, odd]
  omega
theorem makeP_ok {k fr to least : Int} {p : Bool} {b : List Int} (hs : sapB fr = true) (h1 : ¬to < least) (h2 : ¬255 < to) (hl : ¬1024 < b.length) : makeP k fr to least p b = (⟨to, fr, false, 2, k, 0, 0, p, b⟩, 0) := by
  unfold makeP
  rw [if_neg (by rw [hs]; rintro (h | h | h) <;> first | exact absurd h (by decide) | exact h1 h | exact h2 h), if_neg hl]
theorem sap_of (x : Int) (h0 : 0 ≤ x) : 2 ≤ 2 + 2 * (x % 127) ∧ 2 + 2 * (x % 127) ≤ 254 ∧ sapB (2 + 2 * (x % 127)) = true ∧ (2 + 2 * (x % 127)) % 2 = 0 ∧ x.tmod 127 = x % 127 ∧ IntKind.i64.wrap (x % 127) = x % 127 ∧ IntKind.i64.wrap (2 * (x % 127)) = 2 * (x % 127) ∧ IntKind.i64.wrap (2 + 2 * (x % 127)) = 2 + 2 * (x % 127) := by
  refine ⟨by omega, by omega, ?_, by omega, Int.tmod_eq_emod_of_nonneg h0, IntWalk.i64_in _ (by omega), IntWalk.i64_in _ (by omega), IntWalk.i64_in _ (by omega)⟩
  simp [sapB]
  omega

theorem Blk.n0two (w : World) (cs : Array Value) (t : TypeId) (o1 : Obj) : Blk ((w.alloc (.cells cs t)).alloc o1) w.heap.size cs t := (Blk.new w cs t).alloc o1
theorem Blk.n1two (w : World) (cs : Array Value) (t : TypeId) (o1 : Obj) : Blk ((w.alloc o1).alloc (.cells cs t)) (w.heap.size + 1) cs t := by
  have := Blk.new (w.alloc o1) cs t
  rwa [World.size_alloc] at this

set_option maxRecDepth 100000 in
set_option maxHeartbeats 4000000 in
theorem walk_PlainUnits (w : World) (A : Option Addr) (n cap : Nat) (g : Nat → Nat → Int) (hm : n ≤ 9223372036854775807) (ha : ArgRec [.i64, .i64, .i64] w A n g) (fr to : Int) (b : Sl) (l : List Int) (hfr : (Lit.int .u8 fr).wf = true) (hto : (Lit.int .u8 to).wf = true) (hlm : l.length ≤ 9223372036854775807) (hl : Ints .u8 w b.v l)
    (pa pb pc pd pe pf : Int) (ha0 : (Lit.int .u8 pa).wf = true) (ha1 : (Lit.int .u8 pb).wf = true) (ha2 : (Lit.int .u8 pc).wf = true) (ha3 : (Lit.int .u8 pd).wf = true) (ha4 : (Lit.int .u8 pe).wf = true) (ha5 : (Lit.int .u8 pf).wf = true) :
    Calls Try.prog 6 #[.slice A n cap, .agg #[.int .u8 fr, .int .u8 to, .slice b.A b.n b.c], .agg #[.int .u8 pa, .int .u8 pb, .int .u8 pc, .int .u8 pd, .int .u8 pe, .int .u8 pf]] w fun e w' => e = .returned (.bool true) ∧ Fr [] w w' := by
  have ht := wf_u8 hto
  have hv := wf_u8 hfr
  clear hto hfr ha0 ha1 ha2 ha3 ha4 ha5
  have hbn : b.n = l.length := hl.n_
  obtain ⟨bA, bn, bc⟩ := b
  simp only at hbn
  subst hbn
  have hB4 := Blk.n0two w #[.int .u8 fr, .int .u8 to, .slice bA l.length bc] 47 (.cells #[.int .u8 pa, .int .u8 pb, .int .u8 pc, .int .u8 pd, .int .u8 pe, .int .u8 pf] 37)
  have hB5 := Blk.n1two w #[.int .u8 pa, .int .u8 pb, .int .u8 pc, .int .u8 pd, .int .u8 pe, .int .u8 pf] 37 (.cells #[.int .u8 fr, .int .u8 to, .slice bA l.length bc] 47)
  have hF0 : Fr [] w ((w.alloc (.cells #[.int .u8 fr, .int .u8 to, .slice bA l.length bc] 47)).alloc (.cells #[.int .u8 pa, .int .u8 pb, .int .u8 pc, .int .u8 pd, .int .u8 pe, .int .u8 pf] 37)) := ((Fr.refl [] w).alloc _).alloc _
  have HB4 := Lib.hid hB4
  have HB5 := Lib.hid hB5
  have HF0 := Lib.hid hF0
  clear hB4 hB5 hF0
  by_cases hl1 : 100 < n
  · have d1 : decide ((100 : Int) < (n : Int)) = true := by simp; omega
    go_enter Try.func6, Try.ntmps6
    go_wp2_with fail
    refine (plain_awake _).mono ?_
    rintro e w1 ⟨rfl, f1⟩
    have F := HF0.out.tr f1
    clear f1
    go_wp2
    go_ret
    exact ⟨rfl, F⟩
  have d1 : decide ((100 : Int) < (n : Int)) = false := by simp; omega
  by_cases hl2 : 1024 < l.length
  · have d2 : decide ((1024 : Int) < (l.length : Int)) = true := by simp; omega
    go_enter Try.func6, Try.ntmps6
    go_wp2_with fail
    refine (plain_awake _).mono ?_
    rintro e w1 ⟨rfl, f1⟩
    have F := HF0.out.tr f1
    have c2 := (HB4.out.fr f1 (by simp)).cell 2 rfl
    simp only [List.getElem_toArray, List.getElem_cons_zero, List.getElem_cons_succ] at c2
    clear f1
    go_wp2
    go_ret
    exact ⟨rfl, F⟩
  have d2 : decide ((1024 : Int) < (l.length : Int)) = false := by simp; omega
  by_cases hl3 : to = 0
  · have d3 : (to == 0) = true := by simp [hl3]
    clear hl3
    go_enter Try.func6, Try.ntmps6
    go_wp2_with fail
    refine (plain_awake _).mono ?_
    rintro e w1 ⟨rfl, f1⟩
    have F := HF0.out.tr f1
    have c1 := (HB4.out.fr f1 (by simp)).cell 1 rfl
    have c2 := (HB4.out.fr f1 (by simp)).cell 2 rfl
    simp only [List.getElem_toArray, List.getElem_cons_zero, List.getElem_cons_succ] at c1 c2
    clear f1
    go_wp2
    go_ret
    exact ⟨rfl, F⟩
  have d3 : (to == 0) = false := by simp [hl3]
  have hto' : IntKind.i64.wrap to = to := IntWalk.i64_in _ (by omega)
  have hfr' : IntKind.i64.wrap fr = fr := IntWalk.i64_in _ (by omega)
  obtain ⟨r0, r1, r2, r3, r4, r5, r6, r7⟩ := sap_of fr hv.1
  generalize fr % 127 = Q at *
  obtain ⟨FR, hFR⟩ : ∃ FR, 2 + 2 * Q = FR := ⟨_, rfl⟩
  rw [hFR] at r0 r1 r2 r3 r7
  obtain ⟨Q2, hQ2⟩ : ∃ Q2, 2 * Q = Q2 := ⟨_, rfl⟩
  rw [hQ2] at r6
  have hl5 : l.length ≤ 100000 := by omega
  have hmay := may_ui to FR l ht.1 ht.2 (by omega) r1 r3 (by omega)
  have hmk := makeP_ok (k := 0) (p := false) (b := l) (to := to) (least := 1) r2 (by omega) (by omega) hl2
  have HMAY := Lib.hid hmay
  have HMK := Lib.hid hmk
  have HL3 := Lib.hid hl3
  have HN : Hid (n ≤ 100) := Lib.hid (by omega)
  rw [hQ2] at hFR
  have HR := Lib.hid (And.intro r0 r1)
  clear hmay hmk hl1 hl2 hl3 r0 r1 r2 r3
  go_enter Try.func6, Try.ntmps6
  go_wp2_with fail
  refine (plain_awake _).mono ?_
  rintro e w1 ⟨rfl, f1⟩
  have F1 := Lib.hid (HF0.out.tr f1)
  have hb4 := HB4.out.fr f1 (by simp)
  have hb5 := HB5.out.fr f1 (by simp)
  have c0 := hb4.cell 0 rfl
  have c1 := hb4.cell 1 rfl
  have c2 := hb4.cell 2 rfl
  simp only [List.getElem_toArray, List.getElem_cons_zero, List.getElem_cons_succ] at c0 c1 c2
  clear f1
  go_wp2_with fail
  refine (plain_deeds w1 A n cap g (by have := HN.out; omega) (ha.fr F1.out)).mono ?_
  rintro e w2 ⟨p, q, m, rfl, s, R, hB⟩
  have f2 := hB.at_.fr
  have c0 := f2.cell c0 (by simp)
  have c1 := f2.cell c1 (by simp)
  have c2 := f2.cell c2 (by simp)
  have hb4 := hb4.fr f2 (by simp)
  have hb5 := hb5.fr f2 (by simp)
  have hl2 := (hl.fr F1.out).fr f2
  have hl2w := Bts.fr (Bts.argN hl) (F1.out.tr f2)
  have HSZ2 := Lib.hid (F1.out.tr f2).size
  clear f2
  go_wp2_with fail
  refine (plain_Unit FR to ⟨bA, l.length, bc⟩ l w.heap.size _ hl2w HSZ2.out hl5).mono ?_
  rw [HMK.out]
  rintro e w3 ⟨sq, rfl, hQ, f3⟩
  simp only at hQ ⊢
  have hB3 := hB.on f3
  have c0 := f3.cell c0 (by simp)
  have c1 := f3.cell c1 (by simp)
  have c2 := f3.cell c2 (by simp)
  have hb4 := hb4.fr f3 (by simp)
  have hb5 := hb5.fr f3 (by simp)
  have hl3 := hl2.fr f3
  have HSZ3 := Lib.hid (Nat.le_trans HSZ2.out f3.size)
  clear hB f3 hl2 hl2w c0 c2
  have c50 := fun o => (hb5.alloc o).cell 0 rfl
  have c51 := fun o => (hb5.alloc o).cell 1 rfl
  have c52 := fun o => (hb5.alloc o).cell 2 rfl
  have c53 := fun o => (hb5.alloc o).cell 3 rfl
  have c54 := fun o => (hb5.alloc o).cell 4 rfl
  have c55 := fun o => (hb5.alloc o).cell 5 rfl
  simp only [List.getElem_toArray, List.getElem_cons_zero, List.getElem_cons_succ] at c50 c51 c52 c53 c54 c55
  go_wp2_with fail
  have hI := hB3.at_.inv hB3.ga
  have hml := hI.small
  refine (hear_u w1 _ p m ⟨to, FR, false, 2, 0, 0, 0, false, l⟩ sq ⟨pa, pb, pc, pd, pe, pf⟩ w.heap.size (hB3.at_.on ((Fr.refl [] w3).alloc (.cells (PD.arr ⟨to, FR, false, 2, 0, 0, 0, false, l⟩ sq) 29))) (hQ.fr ((Fr.refl [] w3).alloc (.cells (PD.arr ⟨to, FR, false, 2, 0, 0, 0, false, l⟩ sq) 29))) (Nat.le_trans HSZ3.out ((Fr.refl [] w3).alloc (.cells (PD.arr ⟨to, FR, false, 2, 0, 0, 0, false, l⟩ sq) 29)).size) HMAY.out rfl rfl hml hl5).mono ?_
  rintro e w5 ⟨st, rfl, hR, _, f5⟩
  have f5' := ((Fr.refl [] w3).alloc (.cells (PD.arr ⟨to, FR, false, 2, 0, 0, 0, false, l⟩ sq) 29)).tr f5
  have c1 := f5'.cell c1 (by simp)
  have hb4 := hb4.fr f5' (by simp)
  have hb5 := hb5.fr f5' (by simp)
  have hl5' := hl3.fr f5'
  have hB5 := hB3.on f5'
  have hb9 := (Blk.new w3 (PD.arr ⟨to, FR, false, 2, 0, 0, 0, false, l⟩ sq) 29).fr f5 (by simp)
  clear hB3 hl3 hQ c50 c51 c52 c53 c54 c55 hI hml f5 f5'
  simp only at hR
  generalize w3.heap.size = B9 at *
  go_wp2_with fail
  refine (r_Hears w5 q s R to hB5.isR (by have := hB5.lenR; have := HN.out; omega) (fun x hx => by have := hB5.lenG x hx; have := HN.out; omega)).mono ?_
  rintro e w6 ⟨sh, rfl, hown, f6⟩
  rw [hB5.rel.hear to] at hown
  have hB6 := hB5.on f6
  have c1 := f6.cell c1 (by simp)
  have hb4 := hb4.fr f6 (by simp)
  have hb5 := hb5.fr f6 (by simp)
  have hl6 := hl5'.fr f6
  have hb9 := hb9.fr f6 (by simp)
  have hR6 := IRow.fr f6 hR
  have hgw := hear_wf hB6.ga to
  have hsrc := Ints.ofOwn hown hgw
  have hml := (hB6.at_.inv hB6.ga).small
  have hHl : (hearA m to).length ≤ 16 := by have := hear_le (m := m) to; omega
  have F6 := Lib.hid (F1.out.tr hB6.at_.fr)
  have hhs : hsOf m to false = hearA m to := by unfold hsOf; simp
  rw [hhs] at hR6
  obtain ⟨H, hH⟩ : ∃ H, hearA m to = H := ⟨_, rfl⟩
  rw [hH] at hR6 hsrc hHl
  obtain ⟨L, hL⟩ : ∃ L, (H.map fun n => (⟨1, n, FR, ⟨pa, pb, pc, pd, pe, pf⟩, l⟩ : ID)) = L := ⟨_, rfl⟩
  rw [hL] at hR6
  have hLn : st.n = H.length := by have := RowG.n hR6; rw [← hL] at this; rw [this, List.length_map]
  have hIn : sh.n = H.length := hsrc.n_
  have HL := Lib.hid hL
  obtain ⟨A11, n11, c11⟩ := st
  obtain ⟨A13, n13, c13⟩ := sh
  simp only at hLn hIn
  subst hLn
  subst hIn
  have HR6 := Lib.hid hR6
  have HI13 := Lib.hid hsrc
  have HB9 := Lib.hid hb9
  have HB4 := Lib.hid hb4
  have HB5 := Lib.hid hb5
  have HL6 := Lib.hid hl6
  clear hR6 hsrc hb9 hb4 hb5 hl6 hL hH hhs hown hgw hB5 hB6 hR hl5' f6 c1 hml
  go_wp2
  go_loopw [14] (fun i wr => ∃ k : Nat, i = .int .i64 k ∧ k ≤ H.length ∧ Fr [] w6 wr) (fun i _ => H.length - (intOf i).toNat)
  case atStart => exact ⟨0, rfl, by omega, Fr.refl _ _⟩
  case round =>
    obtain ⟨k, rfl, hk, f8⟩ := hrel
    by_cases hkl : k < H.length
    · have dk : decide ((k : Int) < (H.length : Int)) = true := by simp; omega
      have dkn : decide (k < H.length) = true := by simp; omega
      obtain ⟨ba, oa, rfl, cx⟩ := (HI13.out.fr f8).at_ k hkl
      obtain ⟨x, hx⟩ : ∃ x, H[k] = x := ⟨_, rfl⟩
      rw [hx] at cx
      have hLk : L[k]? = some ⟨1, x, FR, ⟨pa, pb, pc, pd, pe, pf⟩, l⟩ := by rw [← HL.out, List.getElem?_map, List.getElem?_eq_getElem hkl, hx]; rfl
      obtain ⟨bb, sd, e2, hbd, c0, c1, c2, c3, c4, c5, c6, c7, c8, c9, c10⟩ := IRow.get (IRow.fr f8 HR6.out) hLk
      simp only at e2 hbd c0 c1 c2 c3 c4 c5 c6 c7 c8 c9 c10
      subst e2
      have HBD := Lib.hid hbd
      have HLK := Lib.hid hLk
      have F8 := Lib.hid f8
      clear hbd hLk hx f8
      go_wp2
      have hbz := Blk.new wr #[.int .i64 1, .int .i64 x, .int .i64 FR, .int .u8 pa, .int .u8 pb, .int .u8 pc, .int .u8 pd, .int .u8 pe, .int .u8 pf, .slice sd.A sd.n sd.c, .int .i64 0] 56
      have fz := F8.out.alloc (.cells #[.int .i64 1, .int .i64 x, .int .i64 FR, .int .u8 pa, .int .u8 pb, .int .u8 pc, .int .u8 pd, .int .u8 pe, .int .u8 pf, .slice sd.A sd.n sd.c, .int .i64 0] 56)
      have HBDz := Lib.hid (Bts.fr HBD.out ((Fr.refl [] wr).alloc (.cells #[.int .i64 1, .int .i64 x, .int .i64 FR, .int .u8 pa, .int .u8 pb, .int .u8 pc, .int .u8 pd, .int .u8 pe, .int .u8 pf, .slice sd.A sd.n sd.c, .int .i64 0] 56)))
      have cx := ((Fr.refl [] wr).alloc (.cells #[.int .i64 1, .int .i64 x, .int .i64 FR, .int .u8 pa, .int .u8 pb, .int .u8 pc, .int .u8 pd, .int .u8 pe, .int .u8 pf, .slice sd.A sd.n sd.c, .int .i64 0] 56)).cell cx (by simp)
      clear c0 c1 c2 c3 c4 c5 c6 c7 c8 c9 c10
      generalize wr.alloc (.cells #[.int .i64 1, .int .i64 x, .int .i64 FR, .int .u8 pa, .int .u8 pb, .int .u8 pc, .int .u8 pd, .int .u8 pe, .int .u8 pf, .slice sd.A sd.n sd.c, .int .i64 0] 56) = wz at *
      generalize wr.heap.size = S15 at *
      have hb9z := HB9.out.fr fz (by simp)
      have hb4z := HB4.out.fr fz (by simp)
      have hb5z := HB5.out.fr fz (by simp)
      have hl0 := HL6.out.fr fz
      have x0 := hbz.cell 0 rfl
      have x1 := hbz.cell 1 rfl
      have x2 := hbz.cell 2 rfl
      have x3 := hbz.cell 3 rfl
      have x4 := hbz.cell 4 rfl
      have x5 := hbz.cell 5 rfl
      have x6 := hbz.cell 6 rfl
      have x7 := hbz.cell 7 rfl
      have x8 := hbz.cell 8 rfl
      have x9 := hbz.cell 9 rfl
      have x10 := hbz.cell 10 rfl
      have d1 := hb9z.cell 1 rfl
      have a2 := hb4z.cell 2 rfl
      have p0 := hb5z.cell 0 rfl
      have p1 := hb5z.cell 1 rfl
      have p2 := hb5z.cell 2 rfl
      have p3 := hb5z.cell 3 rfl
      have p4 := hb5z.cell 4 rfl
      have p5 := hb5z.cell 5 rfl
      simp only [List.getElem_toArray, List.getElem_cons_zero, List.getElem_cons_succ] at x0 x1 x2 x3 x4 x5 x6 x7 x8 x9 x10 d1 a2 p0 p1 p2 p3 p4 p5
      have kx0 : ∀ wx, Fr [] wz wx → wx.cell? ⟨S15, 0, none⟩ = some (.int .i64 1) := fun wx hf => hf.cell x0 (by simp)
      have kx1 : ∀ wx, Fr [] wz wx → wx.cell? ⟨S15, 1, none⟩ = some (.int .i64 x) := fun wx hf => hf.cell x1 (by simp)
      have kx2 : ∀ wx, Fr [] wz wx → wx.cell? ⟨S15, 2, none⟩ = some (.int .i64 FR) := fun wx hf => hf.cell x2 (by simp)
      have kx3 : ∀ wx, Fr [] wz wx → wx.cell? ⟨S15, 3, none⟩ = some (.int .u8 pa) := fun wx hf => hf.cell x3 (by simp)
      have kx4 : ∀ wx, Fr [] wz wx → wx.cell? ⟨S15, 4, none⟩ = some (.int .u8 pb) := fun wx hf => hf.cell x4 (by simp)
      have kx5 : ∀ wx, Fr [] wz wx → wx.cell? ⟨S15, 5, none⟩ = some (.int .u8 pc) := fun wx hf => hf.cell x5 (by simp)
      have kx6 : ∀ wx, Fr [] wz wx → wx.cell? ⟨S15, 6, none⟩ = some (.int .u8 pd) := fun wx hf => hf.cell x6 (by simp)
      have kx7 : ∀ wx, Fr [] wz wx → wx.cell? ⟨S15, 7, none⟩ = some (.int .u8 pe) := fun wx hf => hf.cell x7 (by simp)
      have kx8 : ∀ wx, Fr [] wz wx → wx.cell? ⟨S15, 8, none⟩ = some (.int .u8 pf) := fun wx hf => hf.cell x8 (by simp)
      have kx9 : ∀ wx, Fr [] wz wx → wx.cell? ⟨S15, 9, none⟩ = some (.slice sd.A sd.n sd.c) := fun wx hf => hf.cell x9 (by simp)
      have kx10 : ∀ wx, Fr [] wz wx → wx.cell? ⟨S15, 10, none⟩ = some (.int .i64 0) := fun wx hf => hf.cell x10 (by simp)
      have kcx : ∀ wx, Fr [] wz wx → wx.cell? ⟨ba, oa + k, none⟩ = some (.int .i64 x) := fun wx hf => hf.cell cx (by simp)
      have kd1 : ∀ wx, Fr [] wz wx → wx.cell? ⟨B9, 1, none⟩ = some (.int .i64 FR) := fun wx hf => hf.cell d1 (by simp)
      have kp0 : ∀ wx, Fr [] wz wx → wx.cell? ⟨w.heap.size + 1, 0, none⟩ = some (.int .u8 pa) := fun wx hf => hf.cell p0 (by simp)
      have kp1 : ∀ wx, Fr [] wz wx → wx.cell? ⟨w.heap.size + 1, 1, none⟩ = some (.int .u8 pb) := fun wx hf => hf.cell p1 (by simp)
      have kp2 : ∀ wx, Fr [] wz wx → wx.cell? ⟨w.heap.size + 1, 2, none⟩ = some (.int .u8 pc) := fun wx hf => hf.cell p2 (by simp)
      have kp3 : ∀ wx, Fr [] wz wx → wx.cell? ⟨w.heap.size + 1, 3, none⟩ = some (.int .u8 pd) := fun wx hf => hf.cell p3 (by simp)
      have kp4 : ∀ wx, Fr [] wz wx → wx.cell? ⟨w.heap.size + 1, 4, none⟩ = some (.int .u8 pe) := fun wx hf => hf.cell p4 (by simp)
      have kp5 : ∀ wx, Fr [] wz wx → wx.cell? ⟨w.heap.size + 1, 5, none⟩ = some (.int .u8 pf) := fun wx hf => hf.cell p5 (by simp)
      have ka2 : ∀ wx, Fr [] wz wx → wx.cell? ⟨w.heap.size, 2, none⟩ = some (.slice bA l.length bc) := fun wx hf => hf.cell a2 (by simp)
      clear hb9z hb4z hb5z hbz cx x0 x1 x2 x3 x4 x5 x6 x7 x8 x9 x10 d1 a2 p0 p1 p2 p3 p4 p5
      refine wp_region_keepsC [] [false, false, false, false, false, false, false, false, false, false, false, false, false, false, false, false, false, false, false, false, false, false, false, false, false, false, false, false, false, false, false, false, false, false, false, false, false, false] [none, none, none, none, none, none, none, none, none, none, none, none, none, none, none, none, none, none, none, none, none, none, none, none, none, none, none, none, none, none, none, none, none, none, none, none, none, none] (fun _ => True) [Is (.pointer (some ⟨S15, 0, none⟩)), Is (.int .i64 1), Is (.bool false), Is (.bool false), Is (.pointer (some ⟨S15, 1, none⟩)), Is (.int .i64 x), Is (.slice (some ⟨ba, oa, none⟩) H.length c13), Is (.int .i64 k), Is (.pointer (some ⟨ba, oa + k, none⟩)), Is (.int .i64 x), Is (.bool false), Is (.bool false), Is (.bool false), Is (.pointer (some ⟨S15, 2, none⟩)), Is (.int .i64 FR), Is (.pointer (some ⟨B9, 1, none⟩)), Is (.int .i64 FR), Is (.bool false), Is (.bool false), Is (.bool false), Is (.pointer (some ⟨S15, 3, none⟩)), Is (.agg #[.int .u8 pa, .int .u8 pb, .int .u8 pc, .int .u8 pd, .int .u8 pe, .int .u8 pf]), Is (.agg #[.int .u8 pa, .int .u8 pb, .int .u8 pc, .int .u8 pd, .int .u8 pe, .int .u8 pf]), Is (.bool false), Is (.bool false), Is (.bool false), Is (.pointer (some ⟨S15, 10, none⟩)), Is (.int .i64 0), Is (.bool false), Is (.bool false), Is (.bool false), Is (.pointer (some ⟨S15, 9, none⟩)), Is (.slice sd.A sd.n sd.c), Is (.pointer (some ⟨w.heap.size, 2, none⟩)), Is (.slice bA l.length bc), Is (.bool true), Is (.bool false), Is (.bool false)] 38 (by kernel_rfl) (by kernel_rfl) (by kernel_rfl) (by kernel_rfl) (by kernel_rfl) (by kernel_rfl) (by kernel_rfl) (by kernel_rfl) ?hV (fun _ _ _ h => h) trivial ?hS ?hD
      case hV =>
        repeat (first | exact trivial | exact Is.keepsN _ | exact Any.keepsN | refine And.intro ?_ ?_)
      case hS =>
        (repeat' (first | exact trivial | refine And.intro ?_ ?_))
        · intro ac wx hf hbs hs hp K hK
          simp only [waits, holdsA, nth, Is, Any, List.filter_cons, List.filter_nil, List.map_cons, List.map_nil, Region.binds, if_true, true_and, and_true, Nat.reduceAdd, List.getElem?_cons_zero, List.getElem?_cons_succ, Option.bind_some, Array.getD_eq_getD_getElem?] at hp
          have hs15 := hs 15 (by kernel_rfl)
          simp only [Array.getD_eq_getD_getElem?, List.getElem?_toArray, List.getElem?_cons_succ, List.getElem?_cons_zero, Option.getD_some] at hs15
          clear hs
          clear hbs
          clear hp
          clear hf
          go_simp
          try dsimp only
          refine hK.out _ _ ?_ ?_
          · change Fr [] _ _
            ((repeat (first | (with_reducible exact Fr.refl _ _) | (with_reducible assumption) | (with_reducible refine Fr.drew ?_) | (with_reducible refine Fr.drewN ?_ _) | (with_reducible refine Fr.alloc ?_ _) | (with_reducible refine Fr.setL ?_ _ _ _ ?_) | (focus (refine Or.inl ?_; simp; done)) | (focus (refine Or.inr ?_; simp; done)) | (focus (refine Or.inr ?_; simp; omega)) | (focus (refine Or.inr ?_; omega)))); done)
          · simp only [nth]
            first | (unfold Is; rfl) | (unfold Any; exact trivial) | exact IsSl.new _ _ _ _ | assumption
        · intro ac wx hf hbs hs hp K hK
          simp only [waits, holdsA, nth, Is, Any, List.filter_cons, List.filter_nil, List.map_cons, List.map_nil, Region.binds, if_true, true_and, and_true, Nat.reduceAdd, List.getElem?_cons_zero, List.getElem?_cons_succ, Option.bind_some, Array.getD_eq_getD_getElem?] at hp
          clear hs
          clear hbs
          have h0 := hp
          clear hp
          have cx := kx0 wx hf
          clear hf
          (try simp only [h0])
          go_simp
          try dsimp only
          refine hK.out _ _ ?_ ?_
          · change Fr [] _ _
            ((repeat (first | (with_reducible exact Fr.refl _ _) | (with_reducible assumption) | (with_reducible refine Fr.drew ?_) | (with_reducible refine Fr.drewN ?_ _) | (with_reducible refine Fr.alloc ?_ _) | (with_reducible refine Fr.setL ?_ _ _ _ ?_) | (focus (refine Or.inl ?_; simp; done)) | (focus (refine Or.inr ?_; simp; done)) | (focus (refine Or.inr ?_; simp; omega)) | (focus (refine Or.inr ?_; omega)))); done)
          · simp only [nth]
            first | (unfold Is; rfl) | (unfold Any; exact trivial) | exact IsSl.new _ _ _ _ | assumption
        · intro ac wx hf hbs hs hp K hK
          simp only [waits, holdsA, nth, Is, Any, List.filter_cons, List.filter_nil, List.map_cons, List.map_nil, Region.binds, if_true, true_and, and_true, Nat.reduceAdd, List.getElem?_cons_zero, List.getElem?_cons_succ, Option.bind_some, Array.getD_eq_getD_getElem?] at hp
          clear hs
          clear hbs
          have h1 := hp
          clear hp
          clear hf
          (try simp only [h1])
          go_simp
          try dsimp only
          refine hK.out _ _ ?_ ?_
          · change Fr [] _ _
            ((repeat (first | (with_reducible exact Fr.refl _ _) | (with_reducible assumption) | (with_reducible refine Fr.drew ?_) | (with_reducible refine Fr.drewN ?_ _) | (with_reducible refine Fr.alloc ?_ _) | (with_reducible refine Fr.setL ?_ _ _ _ ?_) | (focus (refine Or.inl ?_; simp; done)) | (focus (refine Or.inr ?_; simp; done)) | (focus (refine Or.inr ?_; simp; omega)) | (focus (refine Or.inr ?_; omega)))); done)
          · simp only [nth]
            first | (unfold Is; rfl) | (unfold Any; exact trivial) | exact IsSl.new _ _ _ _ | assumption
        · intro ac wx hf hbs hs hp K hK
          simp only [waits, holdsA, nth, Is, Any, List.filter_cons, List.filter_nil, List.map_cons, List.map_nil, Region.binds, if_true, true_and, and_true, Nat.reduceAdd, List.getElem?_cons_zero, List.getElem?_cons_succ, Option.bind_some, Array.getD_eq_getD_getElem?] at hp
          clear hs
          clear hbs
          have h2 := hp
          clear hp
          clear hf
          (try simp only [h2])
          go_simp
          try dsimp only
          refine hK.out _ _ ?_ ?_
          · change Fr [] _ _
            ((repeat (first | (with_reducible exact Fr.refl _ _) | (with_reducible assumption) | (with_reducible refine Fr.drew ?_) | (with_reducible refine Fr.drewN ?_ _) | (with_reducible refine Fr.alloc ?_ _) | (with_reducible refine Fr.setL ?_ _ _ _ ?_) | (focus (refine Or.inl ?_; simp; done)) | (focus (refine Or.inr ?_; simp; done)) | (focus (refine Or.inr ?_; simp; omega)) | (focus (refine Or.inr ?_; omega)))); done)
          · simp only [nth]
            first | (unfold Is; rfl) | (unfold Any; exact trivial) | exact IsSl.new _ _ _ _ | assumption
        · intro ac wx hf hbs hs hp K hK
          simp only [waits, holdsA, nth, Is, Any, List.filter_cons, List.filter_nil, List.map_cons, List.map_nil, Region.binds, if_true, true_and, and_true, Nat.reduceAdd, List.getElem?_cons_zero, List.getElem?_cons_succ, Option.bind_some, Array.getD_eq_getD_getElem?] at hp
          have hs15 := hs 15 (by kernel_rfl)
          simp only [Array.getD_eq_getD_getElem?, List.getElem?_toArray, List.getElem?_cons_succ, List.getElem?_cons_zero, Option.getD_some] at hs15
          clear hs
          clear hbs
          have h3 := hp
          clear hp
          have hg3 := (getD_bool _ _).1 h3
          clear hf
          (try simp only [h3, hg3])
          go_simp
          try dsimp only
          refine hK.out _ _ ?_ ?_
          · change Fr [] _ _
            ((repeat (first | (with_reducible exact Fr.refl _ _) | (with_reducible assumption) | (with_reducible refine Fr.drew ?_) | (with_reducible refine Fr.drewN ?_ _) | (with_reducible refine Fr.alloc ?_ _) | (with_reducible refine Fr.setL ?_ _ _ _ ?_) | (focus (refine Or.inl ?_; simp; done)) | (focus (refine Or.inr ?_; simp; done)) | (focus (refine Or.inr ?_; simp; omega)) | (focus (refine Or.inr ?_; omega)))); done)
          · simp only [nth]
            first | (unfold Is; rfl) | (unfold Any; exact trivial) | exact IsSl.new _ _ _ _ | assumption
        · intro ac wx hf hbs hs hp K hK
          simp only [waits, holdsA, nth, Is, Any, List.filter_cons, List.filter_nil, List.map_cons, List.map_nil, Region.binds, if_true, true_and, and_true, Nat.reduceAdd, List.getElem?_cons_zero, List.getElem?_cons_succ, Option.bind_some, Array.getD_eq_getD_getElem?] at hp
          clear hs
          clear hbs
          obtain ⟨h4, h3⟩ := hp
          have hg3 := (getD_bool _ _).1 h3
          have cx := kx1 wx hf
          clear hf
          (try simp only [h4, h3, hg3])
          go_simp
          try dsimp only
          refine hK.out _ _ ?_ ?_
          · change Fr [] _ _
            ((repeat (first | (with_reducible exact Fr.refl _ _) | (with_reducible assumption) | (with_reducible refine Fr.drew ?_) | (with_reducible refine Fr.drewN ?_ _) | (with_reducible refine Fr.alloc ?_ _) | (with_reducible refine Fr.setL ?_ _ _ _ ?_) | (focus (refine Or.inl ?_; simp; done)) | (focus (refine Or.inr ?_; simp; done)) | (focus (refine Or.inr ?_; simp; omega)) | (focus (refine Or.inr ?_; omega)))); done)
          · simp only [nth]
            first | (unfold Is; rfl) | (unfold Any; exact trivial) | exact IsSl.new _ _ _ _ | assumption
        · intro ac wx hf hbs hs hp K hK
          simp only [waits, holdsA, nth, Is, Any, List.filter_cons, List.filter_nil, List.map_cons, List.map_nil, Region.binds, if_true, true_and, and_true, Nat.reduceAdd, List.getElem?_cons_zero, List.getElem?_cons_succ, Option.bind_some, Array.getD_eq_getD_getElem?] at hp
          have hs13 := hs 13 (by kernel_rfl)
          simp only [Array.getD_eq_getD_getElem?, List.getElem?_toArray, List.getElem?_cons_succ, List.getElem?_cons_zero, Option.getD_some] at hs13
          clear hs
          clear hbs
          have h3 := hp
          clear hp
          have hg3 := (getD_bool _ _).1 h3
          clear hf
          (try simp only [h3, hg3])
          go_simp
          try dsimp only
          refine hK.out _ _ ?_ ?_
          · change Fr [] _ _
            ((repeat (first | (with_reducible exact Fr.refl _ _) | (with_reducible assumption) | (with_reducible refine Fr.drew ?_) | (with_reducible refine Fr.drewN ?_ _) | (with_reducible refine Fr.alloc ?_ _) | (with_reducible refine Fr.setL ?_ _ _ _ ?_) | (focus (refine Or.inl ?_; simp; done)) | (focus (refine Or.inr ?_; simp; done)) | (focus (refine Or.inr ?_; simp; omega)) | (focus (refine Or.inr ?_; omega)))); done)
          · simp only [nth]
            first | (unfold Is; rfl) | (unfold Any; exact trivial) | exact IsSl.new _ _ _ _ | assumption
        · intro ac wx hf hbs hs hp K hK
          simp only [waits, holdsA, nth, Is, Any, List.filter_cons, List.filter_nil, List.map_cons, List.map_nil, Region.binds, if_true, true_and, and_true, Nat.reduceAdd, List.getElem?_cons_zero, List.getElem?_cons_succ, Option.bind_some, Array.getD_eq_getD_getElem?] at hp
          have hs14 := hs 14 (by kernel_rfl)
          simp only [Array.getD_eq_getD_getElem?, List.getElem?_toArray, List.getElem?_cons_succ, List.getElem?_cons_zero, Option.getD_some] at hs14
          clear hs
          clear hbs
          have h3 := hp
          clear hp
          have hg3 := (getD_bool _ _).1 h3
          clear hf
          (try simp only [h3, hg3])
          go_simp
          try dsimp only
          refine hK.out _ _ ?_ ?_
          · change Fr [] _ _
            ((repeat (first | (with_reducible exact Fr.refl _ _) | (with_reducible assumption) | (with_reducible refine Fr.drew ?_) | (with_reducible refine Fr.drewN ?_ _) | (with_reducible refine Fr.alloc ?_ _) | (with_reducible refine Fr.setL ?_ _ _ _ ?_) | (focus (refine Or.inl ?_; simp; done)) | (focus (refine Or.inr ?_; simp; done)) | (focus (refine Or.inr ?_; simp; omega)) | (focus (refine Or.inr ?_; omega)))); done)
          · simp only [nth]
            first | (unfold Is; rfl) | (unfold Any; exact trivial) | exact IsSl.new _ _ _ _ | assumption
        · intro ac wx hf hbs hs hp K hK
          simp only [waits, holdsA, nth, Is, Any, List.filter_cons, List.filter_nil, List.map_cons, List.map_nil, Region.binds, if_true, true_and, and_true, Nat.reduceAdd, List.getElem?_cons_zero, List.getElem?_cons_succ, Option.bind_some, Array.getD_eq_getD_getElem?] at hp
          clear hs
          clear hbs
          obtain ⟨h6, h7, h3⟩ := hp
          have hg3 := (getD_bool _ _).1 h3
          clear hf
          (try simp only [h6, h7, h3, hg3])
          go_simp
          try dsimp only
          refine hK.out _ _ ?_ ?_
          · change Fr [] _ _
            ((repeat (first | (with_reducible exact Fr.refl _ _) | (with_reducible assumption) | (with_reducible refine Fr.drew ?_) | (with_reducible refine Fr.drewN ?_ _) | (with_reducible refine Fr.alloc ?_ _) | (with_reducible refine Fr.setL ?_ _ _ _ ?_) | (focus (refine Or.inl ?_; simp; done)) | (focus (refine Or.inr ?_; simp; done)) | (focus (refine Or.inr ?_; simp; omega)) | (focus (refine Or.inr ?_; omega)))); done)
          · simp only [nth]
            first | (unfold Is; rfl) | (unfold Any; exact trivial) | exact IsSl.new _ _ _ _ | assumption
        · intro ac wx hf hbs hs hp K hK
          simp only [waits, holdsA, nth, Is, Any, List.filter_cons, List.filter_nil, List.map_cons, List.map_nil, Region.binds, if_true, true_and, and_true, Nat.reduceAdd, List.getElem?_cons_zero, List.getElem?_cons_succ, Option.bind_some, Array.getD_eq_getD_getElem?] at hp
          clear hs
          clear hbs
          obtain ⟨h8, h3⟩ := hp
          have hg3 := (getD_bool _ _).1 h3
          have cx := kcx wx hf
          clear hf
          (try simp only [h8, h3, hg3])
          go_simp
          try dsimp only
          refine hK.out _ _ ?_ ?_
          · change Fr [] _ _
            ((repeat (first | (with_reducible exact Fr.refl _ _) | (with_reducible assumption) | (with_reducible refine Fr.drew ?_) | (with_reducible refine Fr.drewN ?_ _) | (with_reducible refine Fr.alloc ?_ _) | (with_reducible refine Fr.setL ?_ _ _ _ ?_) | (focus (refine Or.inl ?_; simp; done)) | (focus (refine Or.inr ?_; simp; done)) | (focus (refine Or.inr ?_; simp; omega)) | (focus (refine Or.inr ?_; omega)))); done)
          · simp only [nth]
            first | (unfold Is; rfl) | (unfold Any; exact trivial) | exact IsSl.new _ _ _ _ | assumption
        · intro ac wx hf hbs hs hp K hK
          simp only [waits, holdsA, nth, Is, Any, List.filter_cons, List.filter_nil, List.map_cons, List.map_nil, Region.binds, if_true, true_and, and_true, Nat.reduceAdd, List.getElem?_cons_zero, List.getElem?_cons_succ, Option.bind_some, Array.getD_eq_getD_getElem?] at hp
          clear hs
          clear hbs
          obtain ⟨h5, h9, h3⟩ := hp
          have hg3 := (getD_bool _ _).1 h3
          clear hf
          (try simp only [h5, h9, h3, hg3])
          go_simp
          try dsimp only
          refine hK.out _ _ ?_ ?_
          · change Fr [] _ _
            ((repeat (first | (with_reducible exact Fr.refl _ _) | (with_reducible assumption) | (with_reducible refine Fr.drew ?_) | (with_reducible refine Fr.drewN ?_ _) | (with_reducible refine Fr.alloc ?_ _) | (with_reducible refine Fr.setL ?_ _ _ _ ?_) | (focus (refine Or.inl ?_; simp; done)) | (focus (refine Or.inr ?_; simp; done)) | (focus (refine Or.inr ?_; simp; omega)) | (focus (refine Or.inr ?_; omega)))); done)
          · simp only [nth]
            first | (unfold Is; rfl) | (unfold Any; exact trivial) | exact IsSl.new _ _ _ _ | assumption
        · intro ac wx hf hbs hs hp K hK
          simp only [waits, holdsA, nth, Is, Any, List.filter_cons, List.filter_nil, List.map_cons, List.map_nil, Region.binds, if_true, true_and, and_true, Nat.reduceAdd, List.getElem?_cons_zero, List.getElem?_cons_succ, Option.bind_some, Array.getD_eq_getD_getElem?] at hp
          clear hs
          clear hbs
          obtain ⟨h3, h10⟩ := hp
          clear hf
          (try simp only [h3, h10])
          go_simp
          try dsimp only
          refine hK.out _ _ ?_ ?_
          · change Fr [] _ _
            ((repeat (first | (with_reducible exact Fr.refl _ _) | (with_reducible assumption) | (with_reducible refine Fr.drew ?_) | (with_reducible refine Fr.drewN ?_ _) | (with_reducible refine Fr.alloc ?_ _) | (with_reducible refine Fr.setL ?_ _ _ _ ?_) | (focus (refine Or.inl ?_; simp; done)) | (focus (refine Or.inr ?_; simp; done)) | (focus (refine Or.inr ?_; simp; omega)) | (focus (refine Or.inr ?_; omega)))); done)
          · simp only [nth]
            first | (unfold Is; rfl) | (unfold Any; exact trivial) | exact IsSl.new _ _ _ _ | assumption
        · intro ac wx hf hbs hs hp K hK
          simp only [waits, holdsA, nth, Is, Any, List.filter_cons, List.filter_nil, List.map_cons, List.map_nil, Region.binds, if_true, true_and, and_true, Nat.reduceAdd, List.getElem?_cons_zero, List.getElem?_cons_succ, Option.bind_some, Array.getD_eq_getD_getElem?] at hp
          clear hs
          clear hbs
          obtain ⟨h11, h3⟩ := hp
          clear hf
          (try simp only [h11, h3])
          go_simp
          try dsimp only
          refine hK.out _ _ ?_ ?_
          · change Fr [] _ _
            ((repeat (first | (with_reducible exact Fr.refl _ _) | (with_reducible assumption) | (with_reducible refine Fr.drew ?_) | (with_reducible refine Fr.drewN ?_ _) | (with_reducible refine Fr.alloc ?_ _) | (with_reducible refine Fr.setL ?_ _ _ _ ?_) | (focus (refine Or.inl ?_; simp; done)) | (focus (refine Or.inr ?_; simp; done)) | (focus (refine Or.inr ?_; simp; omega)) | (focus (refine Or.inr ?_; omega)))); done)
          · simp only [nth]
            first | (unfold Is; rfl) | (unfold Any; exact trivial) | exact IsSl.new _ _ _ _ | assumption
        · intro ac wx hf hbs hs hp K hK
          simp only [waits, holdsA, nth, Is, Any, List.filter_cons, List.filter_nil, List.map_cons, List.map_nil, Region.binds, if_true, true_and, and_true, Nat.reduceAdd, List.getElem?_cons_zero, List.getElem?_cons_succ, Option.bind_some, Array.getD_eq_getD_getElem?] at hp
          have hs15 := hs 15 (by kernel_rfl)
          simp only [Array.getD_eq_getD_getElem?, List.getElem?_toArray, List.getElem?_cons_succ, List.getElem?_cons_zero, Option.getD_some] at hs15
          clear hs
          clear hbs
          have h12 := hp
          clear hp
          have hg12 := (getD_bool _ _).1 h12
          clear hf
          (try simp only [h12, hg12])
          go_simp
          try dsimp only
          refine hK.out _ _ ?_ ?_
          · change Fr [] _ _
            ((repeat (first | (with_reducible exact Fr.refl _ _) | (with_reducible assumption) | (with_reducible refine Fr.drew ?_) | (with_reducible refine Fr.drewN ?_ _) | (with_reducible refine Fr.alloc ?_ _) | (with_reducible refine Fr.setL ?_ _ _ _ ?_) | (focus (refine Or.inl ?_; simp; done)) | (focus (refine Or.inr ?_; simp; done)) | (focus (refine Or.inr ?_; simp; omega)) | (focus (refine Or.inr ?_; omega)))); done)
          · simp only [nth]
            first | (unfold Is; rfl) | (unfold Any; exact trivial) | exact IsSl.new _ _ _ _ | assumption
        · intro ac wx hf hbs hs hp K hK
          simp only [waits, holdsA, nth, Is, Any, List.filter_cons, List.filter_nil, List.map_cons, List.map_nil, Region.binds, if_true, true_and, and_true, Nat.reduceAdd, List.getElem?_cons_zero, List.getElem?_cons_succ, Option.bind_some, Array.getD_eq_getD_getElem?] at hp
          clear hs
          clear hbs
          obtain ⟨h13, h12⟩ := hp
          have hg12 := (getD_bool _ _).1 h12
          have cx := kx2 wx hf
          clear hf
          (try simp only [h13, h12, hg12])
          go_simp
          try dsimp only
          refine hK.out _ _ ?_ ?_
          · change Fr [] _ _
            ((repeat (first | (with_reducible exact Fr.refl _ _) | (with_reducible assumption) | (with_reducible refine Fr.drew ?_) | (with_reducible refine Fr.drewN ?_ _) | (with_reducible refine Fr.alloc ?_ _) | (with_reducible refine Fr.setL ?_ _ _ _ ?_) | (focus (refine Or.inl ?_; simp; done)) | (focus (refine Or.inr ?_; simp; done)) | (focus (refine Or.inr ?_; simp; omega)) | (focus (refine Or.inr ?_; omega)))); done)
          · simp only [nth]
            first | (unfold Is; rfl) | (unfold Any; exact trivial) | exact IsSl.new _ _ _ _ | assumption
        · intro ac wx hf hbs hs hp K hK
          simp only [waits, holdsA, nth, Is, Any, List.filter_cons, List.filter_nil, List.map_cons, List.map_nil, Region.binds, if_true, true_and, and_true, Nat.reduceAdd, List.getElem?_cons_zero, List.getElem?_cons_succ, Option.bind_some, Array.getD_eq_getD_getElem?] at hp
          have hs9 := hs 9 (by kernel_rfl)
          simp only [Array.getD_eq_getD_getElem?, List.getElem?_toArray, List.getElem?_cons_succ, List.getElem?_cons_zero, Option.getD_some] at hs9
          clear hs
          clear hbs
          have h12 := hp
          clear hp
          have hg12 := (getD_bool _ _).1 h12
          clear hf
          (try simp only [h12, hg12])
          go_simp
          try dsimp only
          refine hK.out _ _ ?_ ?_
          · change Fr [] _ _
            ((repeat (first | (with_reducible exact Fr.refl _ _) | (with_reducible assumption) | (with_reducible refine Fr.drew ?_) | (with_reducible refine Fr.drewN ?_ _) | (with_reducible refine Fr.alloc ?_ _) | (with_reducible refine Fr.setL ?_ _ _ _ ?_) | (focus (refine Or.inl ?_; simp; done)) | (focus (refine Or.inr ?_; simp; done)) | (focus (refine Or.inr ?_; simp; omega)) | (focus (refine Or.inr ?_; omega)))); done)
          · simp only [nth]
            first | (unfold Is; rfl) | (unfold Any; exact trivial) | exact IsSl.new _ _ _ _ | assumption
        · intro ac wx hf hbs hs hp K hK
          simp only [waits, holdsA, nth, Is, Any, List.filter_cons, List.filter_nil, List.map_cons, List.map_nil, Region.binds, if_true, true_and, and_true, Nat.reduceAdd, List.getElem?_cons_zero, List.getElem?_cons_succ, Option.bind_some, Array.getD_eq_getD_getElem?] at hp
          clear hs
          clear hbs
          obtain ⟨h15, h12⟩ := hp
          have hg12 := (getD_bool _ _).1 h12
          have cx := kd1 wx hf
          clear hf
          (try simp only [h15, h12, hg12])
          go_simp
          try dsimp only
          refine hK.out _ _ ?_ ?_
          · change Fr [] _ _
            ((repeat (first | (with_reducible exact Fr.refl _ _) | (with_reducible assumption) | (with_reducible refine Fr.drew ?_) | (with_reducible refine Fr.drewN ?_ _) | (with_reducible refine Fr.alloc ?_ _) | (with_reducible refine Fr.setL ?_ _ _ _ ?_) | (focus (refine Or.inl ?_; simp; done)) | (focus (refine Or.inr ?_; simp; done)) | (focus (refine Or.inr ?_; simp; omega)) | (focus (refine Or.inr ?_; omega)))); done)
          · simp only [nth]
            first | (unfold Is; rfl) | (unfold Any; exact trivial) | exact IsSl.new _ _ _ _ | assumption
        · intro ac wx hf hbs hs hp K hK
          simp only [waits, holdsA, nth, Is, Any, List.filter_cons, List.filter_nil, List.map_cons, List.map_nil, Region.binds, if_true, true_and, and_true, Nat.reduceAdd, List.getElem?_cons_zero, List.getElem?_cons_succ, Option.bind_some, Array.getD_eq_getD_getElem?] at hp
          clear hs
          clear hbs
          obtain ⟨h14, h16, h12⟩ := hp
          have hg12 := (getD_bool _ _).1 h12
          clear hf
          (try simp only [h14, h16, h12, hg12])
          go_simp
          try dsimp only
          refine hK.out _ _ ?_ ?_
          · change Fr [] _ _
            ((repeat (first | (with_reducible exact Fr.refl _ _) | (with_reducible assumption) | (with_reducible refine Fr.drew ?_) | (with_reducible refine Fr.drewN ?_ _) | (with_reducible refine Fr.alloc ?_ _) | (with_reducible refine Fr.setL ?_ _ _ _ ?_) | (focus (refine Or.inl ?_; simp; done)) | (focus (refine Or.inr ?_; simp; done)) | (focus (refine Or.inr ?_; simp; omega)) | (focus (refine Or.inr ?_; omega)))); done)
          · simp only [nth]
            first | (unfold Is; rfl) | (unfold Any; exact trivial) | exact IsSl.new _ _ _ _ | assumption
        · intro ac wx hf hbs hs hp K hK
          simp only [waits, holdsA, nth, Is, Any, List.filter_cons, List.filter_nil, List.map_cons, List.map_nil, Region.binds, if_true, true_and, and_true, Nat.reduceAdd, List.getElem?_cons_zero, List.getElem?_cons_succ, Option.bind_some, Array.getD_eq_getD_getElem?] at hp
          clear hs
          clear hbs
          obtain ⟨h12, h17⟩ := hp
          clear hf
          (try simp only [h12, h17])
          go_simp
          try dsimp only
          refine hK.out _ _ ?_ ?_
          · change Fr [] _ _
            ((repeat (first | (with_reducible exact Fr.refl _ _) | (with_reducible assumption) | (with_reducible refine Fr.drew ?_) | (with_reducible refine Fr.drewN ?_ _) | (with_reducible refine Fr.alloc ?_ _) | (with_reducible refine Fr.setL ?_ _ _ _ ?_) | (focus (refine Or.inl ?_; simp; done)) | (focus (refine Or.inr ?_; simp; done)) | (focus (refine Or.inr ?_; simp; omega)) | (focus (refine Or.inr ?_; omega)))); done)
          · simp only [nth]
            first | (unfold Is; rfl) | (unfold Any; exact trivial) | exact IsSl.new _ _ _ _ | assumption
        · intro ac wx hf hbs hs hp K hK
          simp only [waits, holdsA, nth, Is, Any, List.filter_cons, List.filter_nil, List.map_cons, List.map_nil, Region.binds, if_true, true_and, and_true, Nat.reduceAdd, List.getElem?_cons_zero, List.getElem?_cons_succ, Option.bind_some, Array.getD_eq_getD_getElem?] at hp
          clear hs
          clear hbs
          obtain ⟨h18, h12⟩ := hp
          clear hf
          (try simp only [h18, h12])
          go_simp
          try dsimp only
          refine hK.out _ _ ?_ ?_
          · change Fr [] _ _
            ((repeat (first | (with_reducible exact Fr.refl _ _) | (with_reducible assumption) | (with_reducible refine Fr.drew ?_) | (with_reducible refine Fr.drewN ?_ _) | (with_reducible refine Fr.alloc ?_ _) | (with_reducible refine Fr.setL ?_ _ _ _ ?_) | (focus (refine Or.inl ?_; simp; done)) | (focus (refine Or.inr ?_; simp; done)) | (focus (refine Or.inr ?_; simp; omega)) | (focus (refine Or.inr ?_; omega)))); done)
          · simp only [nth]
            first | (unfold Is; rfl) | (unfold Any; exact trivial) | exact IsSl.new _ _ _ _ | assumption
        · intro ac wx hf hbs hs hp K hK
          simp only [waits, holdsA, nth, Is, Any, List.filter_cons, List.filter_nil, List.map_cons, List.map_nil, Region.binds, if_true, true_and, and_true, Nat.reduceAdd, List.getElem?_cons_zero, List.getElem?_cons_succ, Option.bind_some, Array.getD_eq_getD_getElem?] at hp
          have hs15 := hs 15 (by kernel_rfl)
          simp only [Array.getD_eq_getD_getElem?, List.getElem?_toArray, List.getElem?_cons_succ, List.getElem?_cons_zero, Option.getD_some] at hs15
          clear hs
          clear hbs
          have h19 := hp
          clear hp
          have hg19 := (getD_bool _ _).1 h19
          clear hf
          (try simp only [h19, hg19])
          go_simp
          try dsimp only
          refine hK.out _ _ ?_ ?_
          · change Fr [] _ _
            ((repeat (first | (with_reducible exact Fr.refl _ _) | (with_reducible assumption) | (with_reducible refine Fr.drew ?_) | (with_reducible refine Fr.drewN ?_ _) | (with_reducible refine Fr.alloc ?_ _) | (with_reducible refine Fr.setL ?_ _ _ _ ?_) | (focus (refine Or.inl ?_; simp; done)) | (focus (refine Or.inr ?_; simp; done)) | (focus (refine Or.inr ?_; simp; omega)) | (focus (refine Or.inr ?_; omega)))); done)
          · simp only [nth]
            first | (unfold Is; rfl) | (unfold Any; exact trivial) | exact IsSl.new _ _ _ _ | assumption
        · intro ac wx hf hbs hs hp K hK
          simp only [waits, holdsA, nth, Is, Any, List.filter_cons, List.filter_nil, List.map_cons, List.map_nil, Region.binds, if_true, true_and, and_true, Nat.reduceAdd, List.getElem?_cons_zero, List.getElem?_cons_succ, Option.bind_some, Array.getD_eq_getD_getElem?] at hp
          clear hs
          clear hbs
          obtain ⟨h20, h19⟩ := hp
          have hg19 := (getD_bool _ _).1 h19
          have cx0 := kx3 wx hf
          have cx1 := kx4 wx hf
          have cx2 := kx5 wx hf
          have cx3 := kx6 wx hf
          have cx4 := kx7 wx hf
          have cx5 := kx8 wx hf
          clear hf
          (try simp only [h20, h19, hg19])
          go_simp
          try dsimp only
          refine hK.out _ _ ?_ ?_
          · change Fr [] _ _
            ((repeat (first | (with_reducible exact Fr.refl _ _) | (with_reducible assumption) | (with_reducible refine Fr.drew ?_) | (with_reducible refine Fr.drewN ?_ _) | (with_reducible refine Fr.alloc ?_ _) | (with_reducible refine Fr.setL ?_ _ _ _ ?_) | (focus (refine Or.inl ?_; simp; done)) | (focus (refine Or.inr ?_; simp; done)) | (focus (refine Or.inr ?_; simp; omega)) | (focus (refine Or.inr ?_; omega)))); done)
          · simp only [nth]
            first | (unfold Is; rfl) | (unfold Any; exact trivial) | exact IsSl.new _ _ _ _ | assumption
        · intro ac wx hf hbs hs hp K hK
          simp only [waits, holdsA, nth, Is, Any, List.filter_cons, List.filter_nil, List.map_cons, List.map_nil, Region.binds, if_true, true_and, and_true, Nat.reduceAdd, List.getElem?_cons_zero, List.getElem?_cons_succ, Option.bind_some, Array.getD_eq_getD_getElem?] at hp
          have hs5 := hs 5 (by kernel_rfl)
          simp only [Array.getD_eq_getD_getElem?, List.getElem?_toArray, List.getElem?_cons_succ, List.getElem?_cons_zero, Option.getD_some] at hs5
          clear hs
          clear hbs
          have h19 := hp
          clear hp
          have hg19 := (getD_bool _ _).1 h19
          have cx0 := kp0 wx hf
          have cx1 := kp1 wx hf
          have cx2 := kp2 wx hf
          have cx3 := kp3 wx hf
          have cx4 := kp4 wx hf
          have cx5 := kp5 wx hf
          clear hf
          (try simp only [h19, hg19])
          go_simp
          try dsimp only
          refine hK.out _ _ ?_ ?_
          · change Fr [] _ _
            ((repeat (first | (with_reducible exact Fr.refl _ _) | (with_reducible assumption) | (with_reducible refine Fr.drew ?_) | (with_reducible refine Fr.drewN ?_ _) | (with_reducible refine Fr.alloc ?_ _) | (with_reducible refine Fr.setL ?_ _ _ _ ?_) | (focus (refine Or.inl ?_; simp; done)) | (focus (refine Or.inr ?_; simp; done)) | (focus (refine Or.inr ?_; simp; omega)) | (focus (refine Or.inr ?_; omega)))); done)
          · simp only [nth]
            first | (unfold Is; rfl) | (unfold Any; exact trivial) | exact IsSl.new _ _ _ _ | assumption
        · intro ac wx hf hbs hs hp K hK
          simp only [waits, holdsA, nth, Is, Any, List.filter_cons, List.filter_nil, List.map_cons, List.map_nil, Region.binds, if_true, true_and, and_true, Nat.reduceAdd, List.getElem?_cons_zero, List.getElem?_cons_succ, Option.bind_some, Array.getD_eq_getD_getElem?] at hp
          clear hs
          clear hbs
          obtain ⟨h21, h22, h19⟩ := hp
          have hg19 := (getD_bool _ _).1 h19
          clear hf
          (try simp only [h21, h22, h19, hg19])
          go_simp
          try dsimp only
          refine hK.out _ _ ?_ ?_
          · change Fr [] _ _
            ((repeat (first | (with_reducible exact Fr.refl _ _) | (with_reducible assumption) | (with_reducible refine Fr.drew ?_) | (with_reducible refine Fr.drewN ?_ _) | (with_reducible refine Fr.alloc ?_ _) | (with_reducible refine Fr.setL ?_ _ _ _ ?_) | (focus (refine Or.inl ?_; simp; done)) | (focus (refine Or.inr ?_; simp; done)) | (focus (refine Or.inr ?_; simp; omega)) | (focus (refine Or.inr ?_; omega)))); done)
          · simp only [nth]
            first | (unfold Is; rfl) | (unfold Any; exact trivial) | exact IsSl.new _ _ _ _ | assumption
        · intro ac wx hf hbs hs hp K hK
          simp only [waits, holdsA, nth, Is, Any, List.filter_cons, List.filter_nil, List.map_cons, List.map_nil, Region.binds, if_true, true_and, and_true, Nat.reduceAdd, List.getElem?_cons_zero, List.getElem?_cons_succ, Option.bind_some, Array.getD_eq_getD_getElem?] at hp
          clear hs
          clear hbs
          obtain ⟨h19, h23⟩ := hp
          clear hf
          (try simp only [h19, h23])
          go_simp
          try dsimp only
          refine hK.out _ _ ?_ ?_
          · change Fr [] _ _
            ((repeat (first | (with_reducible exact Fr.refl _ _) | (with_reducible assumption) | (with_reducible refine Fr.drew ?_) | (with_reducible refine Fr.drewN ?_ _) | (with_reducible refine Fr.alloc ?_ _) | (with_reducible refine Fr.setL ?_ _ _ _ ?_) | (focus (refine Or.inl ?_; simp; done)) | (focus (refine Or.inr ?_; simp; done)) | (focus (refine Or.inr ?_; simp; omega)) | (focus (refine Or.inr ?_; omega)))); done)
          · simp only [nth]
            first | (unfold Is; rfl) | (unfold Any; exact trivial) | exact IsSl.new _ _ _ _ | assumption
        · intro ac wx hf hbs hs hp K hK
          simp only [waits, holdsA, nth, Is, Any, List.filter_cons, List.filter_nil, List.map_cons, List.map_nil, Region.binds, if_true, true_and, and_true, Nat.reduceAdd, List.getElem?_cons_zero, List.getElem?_cons_succ, Option.bind_some, Array.getD_eq_getD_getElem?] at hp
          clear hs
          clear hbs
          obtain ⟨h24, h19⟩ := hp
          clear hf
          (try simp only [h24, h19])
          go_simp
          try dsimp only
          refine hK.out _ _ ?_ ?_
          · change Fr [] _ _
            ((repeat (first | (with_reducible exact Fr.refl _ _) | (with_reducible assumption) | (with_reducible refine Fr.drew ?_) | (with_reducible refine Fr.drewN ?_ _) | (with_reducible refine Fr.alloc ?_ _) | (with_reducible refine Fr.setL ?_ _ _ _ ?_) | (focus (refine Or.inl ?_; simp; done)) | (focus (refine Or.inr ?_; simp; done)) | (focus (refine Or.inr ?_; simp; omega)) | (focus (refine Or.inr ?_; omega)))); done)
          · simp only [nth]
            first | (unfold Is; rfl) | (unfold Any; exact trivial) | exact IsSl.new _ _ _ _ | assumption
        · intro ac wx hf hbs hs hp K hK
          simp only [waits, holdsA, nth, Is, Any, List.filter_cons, List.filter_nil, List.map_cons, List.map_nil, Region.binds, if_true, true_and, and_true, Nat.reduceAdd, List.getElem?_cons_zero, List.getElem?_cons_succ, Option.bind_some, Array.getD_eq_getD_getElem?] at hp
          have hs15 := hs 15 (by kernel_rfl)
          simp only [Array.getD_eq_getD_getElem?, List.getElem?_toArray, List.getElem?_cons_succ, List.getElem?_cons_zero, Option.getD_some] at hs15
          clear hs
          clear hbs
          have h25 := hp
          clear hp
          have hg25 := (getD_bool _ _).1 h25
          clear hf
          (try simp only [h25, hg25])
          go_simp
          try dsimp only
          refine hK.out _ _ ?_ ?_
          · change Fr [] _ _
            ((repeat (first | (with_reducible exact Fr.refl _ _) | (with_reducible assumption) | (with_reducible refine Fr.drew ?_) | (with_reducible refine Fr.drewN ?_ _) | (with_reducible refine Fr.alloc ?_ _) | (with_reducible refine Fr.setL ?_ _ _ _ ?_) | (focus (refine Or.inl ?_; simp; done)) | (focus (refine Or.inr ?_; simp; done)) | (focus (refine Or.inr ?_; simp; omega)) | (focus (refine Or.inr ?_; omega)))); done)
          · simp only [nth]
            first | (unfold Is; rfl) | (unfold Any; exact trivial) | exact IsSl.new _ _ _ _ | assumption
        · intro ac wx hf hbs hs hp K hK
          simp only [waits, holdsA, nth, Is, Any, List.filter_cons, List.filter_nil, List.map_cons, List.map_nil, Region.binds, if_true, true_and, and_true, Nat.reduceAdd, List.getElem?_cons_zero, List.getElem?_cons_succ, Option.bind_some, Array.getD_eq_getD_getElem?] at hp
          clear hs
          clear hbs
          obtain ⟨h26, h25⟩ := hp
          have hg25 := (getD_bool _ _).1 h25
          have cx := kx10 wx hf
          clear hf
          (try simp only [h26, h25, hg25])
          go_simp
          try dsimp only
          refine hK.out _ _ ?_ ?_
          · change Fr [] _ _
            ((repeat (first | (with_reducible exact Fr.refl _ _) | (with_reducible assumption) | (with_reducible refine Fr.drew ?_) | (with_reducible refine Fr.drewN ?_ _) | (with_reducible refine Fr.alloc ?_ _) | (with_reducible refine Fr.setL ?_ _ _ _ ?_) | (focus (refine Or.inl ?_; simp; done)) | (focus (refine Or.inr ?_; simp; done)) | (focus (refine Or.inr ?_; simp; omega)) | (focus (refine Or.inr ?_; omega)))); done)
          · simp only [nth]
            first | (unfold Is; rfl) | (unfold Any; exact trivial) | exact IsSl.new _ _ _ _ | assumption
        · intro ac wx hf hbs hs hp K hK
          simp only [waits, holdsA, nth, Is, Any, List.filter_cons, List.filter_nil, List.map_cons, List.map_nil, Region.binds, if_true, true_and, and_true, Nat.reduceAdd, List.getElem?_cons_zero, List.getElem?_cons_succ, Option.bind_some, Array.getD_eq_getD_getElem?] at hp
          clear hs
          clear hbs
          obtain ⟨h27, h25⟩ := hp
          have hg25 := (getD_bool _ _).1 h25
          clear hf
          (try simp only [h27, h25, hg25])
          go_simp
          try dsimp only
          refine hK.out _ _ ?_ ?_
          · change Fr [] _ _
            ((repeat (first | (with_reducible exact Fr.refl _ _) | (with_reducible assumption) | (with_reducible refine Fr.drew ?_) | (with_reducible refine Fr.drewN ?_ _) | (with_reducible refine Fr.alloc ?_ _) | (with_reducible refine Fr.setL ?_ _ _ _ ?_) | (focus (refine Or.inl ?_; simp; done)) | (focus (refine Or.inr ?_; simp; done)) | (focus (refine Or.inr ?_; simp; omega)) | (focus (refine Or.inr ?_; omega)))); done)
          · simp only [nth]
            first | (unfold Is; rfl) | (unfold Any; exact trivial) | exact IsSl.new _ _ _ _ | assumption
        · intro ac wx hf hbs hs hp K hK
          simp only [waits, holdsA, nth, Is, Any, List.filter_cons, List.filter_nil, List.map_cons, List.map_nil, Region.binds, if_true, true_and, and_true, Nat.reduceAdd, List.getElem?_cons_zero, List.getElem?_cons_succ, Option.bind_some, Array.getD_eq_getD_getElem?] at hp
          clear hs
          clear hbs
          obtain ⟨h25, h28⟩ := hp
          clear hf
          (try simp only [h25, h28])
          go_simp
          try dsimp only
          refine hK.out _ _ ?_ ?_
          · change Fr [] _ _
            ((repeat (first | (with_reducible exact Fr.refl _ _) | (with_reducible assumption) | (with_reducible refine Fr.drew ?_) | (with_reducible refine Fr.drewN ?_ _) | (with_reducible refine Fr.alloc ?_ _) | (with_reducible refine Fr.setL ?_ _ _ _ ?_) | (focus (refine Or.inl ?_; simp; done)) | (focus (refine Or.inr ?_; simp; done)) | (focus (refine Or.inr ?_; simp; omega)) | (focus (refine Or.inr ?_; omega)))); done)
          · simp only [nth]
            first | (unfold Is; rfl) | (unfold Any; exact trivial) | exact IsSl.new _ _ _ _ | assumption
        · intro ac wx hf hbs hs hp K hK
          simp only [waits, holdsA, nth, Is, Any, List.filter_cons, List.filter_nil, List.map_cons, List.map_nil, Region.binds, if_true, true_and, and_true, Nat.reduceAdd, List.getElem?_cons_zero, List.getElem?_cons_succ, Option.bind_some, Array.getD_eq_getD_getElem?] at hp
          clear hs
          clear hbs
          obtain ⟨h29, h25⟩ := hp
          clear hf
          (try simp only [h29, h25])
          go_simp
          try dsimp only
          refine hK.out _ _ ?_ ?_
          · change Fr [] _ _
            ((repeat (first | (with_reducible exact Fr.refl _ _) | (with_reducible assumption) | (with_reducible refine Fr.drew ?_) | (with_reducible refine Fr.drewN ?_ _) | (with_reducible refine Fr.alloc ?_ _) | (with_reducible refine Fr.setL ?_ _ _ _ ?_) | (focus (refine Or.inl ?_; simp; done)) | (focus (refine Or.inr ?_; simp; done)) | (focus (refine Or.inr ?_; simp; omega)) | (focus (refine Or.inr ?_; omega)))); done)
          · simp only [nth]
            first | (unfold Is; rfl) | (unfold Any; exact trivial) | exact IsSl.new _ _ _ _ | assumption
        · intro ac wx hf hbs hs hp K hK
          simp only [waits, holdsA, nth, Is, Any, List.filter_cons, List.filter_nil, List.map_cons, List.map_nil, Region.binds, if_true, true_and, and_true, Nat.reduceAdd, List.getElem?_cons_zero, List.getElem?_cons_succ, Option.bind_some, Array.getD_eq_getD_getElem?] at hp
          have hs15 := hs 15 (by kernel_rfl)
          simp only [Array.getD_eq_getD_getElem?, List.getElem?_toArray, List.getElem?_cons_succ, List.getElem?_cons_zero, Option.getD_some] at hs15
          clear hs
          clear hbs
          have h30 := hp
          clear hp
          have hg30 := (getD_bool _ _).1 h30
          clear hf
          (try simp only [h30, hg30])
          go_simp
          try dsimp only
          refine hK.out _ _ ?_ ?_
          · change Fr [] _ _
            ((repeat (first | (with_reducible exact Fr.refl _ _) | (with_reducible assumption) | (with_reducible refine Fr.drew ?_) | (with_reducible refine Fr.drewN ?_ _) | (with_reducible refine Fr.alloc ?_ _) | (with_reducible refine Fr.setL ?_ _ _ _ ?_) | (focus (refine Or.inl ?_; simp; done)) | (focus (refine Or.inr ?_; simp; done)) | (focus (refine Or.inr ?_; simp; omega)) | (focus (refine Or.inr ?_; omega)))); done)
          · simp only [nth]
            first | (unfold Is; rfl) | (unfold Any; exact trivial) | exact IsSl.new _ _ _ _ | assumption
        · intro ac wx hf hbs hs hp K hK
          simp only [waits, holdsA, nth, Is, Any, List.filter_cons, List.filter_nil, List.map_cons, List.map_nil, Region.binds, if_true, true_and, and_true, Nat.reduceAdd, List.getElem?_cons_zero, List.getElem?_cons_succ, Option.bind_some, Array.getD_eq_getD_getElem?] at hp
          clear hs
          clear hbs
          obtain ⟨h31, h30⟩ := hp
          have hg30 := (getD_bool _ _).1 h30
          have cx := kx9 wx hf
          clear hf
          (try simp only [h31, h30, hg30])
          go_simp
          try dsimp only
          refine hK.out _ _ ?_ ?_
          · change Fr [] _ _
            ((repeat (first | (with_reducible exact Fr.refl _ _) | (with_reducible assumption) | (with_reducible refine Fr.drew ?_) | (with_reducible refine Fr.drewN ?_ _) | (with_reducible refine Fr.alloc ?_ _) | (with_reducible refine Fr.setL ?_ _ _ _ ?_) | (focus (refine Or.inl ?_; simp; done)) | (focus (refine Or.inr ?_; simp; done)) | (focus (refine Or.inr ?_; simp; omega)) | (focus (refine Or.inr ?_; omega)))); done)
          · simp only [nth]
            first | (unfold Is; rfl) | (unfold Any; exact trivial) | exact IsSl.new _ _ _ _ | assumption
        · intro ac wx hf hbs hs hp K hK
          simp only [waits, holdsA, nth, Is, Any, List.filter_cons, List.filter_nil, List.map_cons, List.map_nil, Region.binds, if_true, true_and, and_true, Nat.reduceAdd, List.getElem?_cons_zero, List.getElem?_cons_succ, Option.bind_some, Array.getD_eq_getD_getElem?] at hp
          have hs4 := hs 4 (by kernel_rfl)
          simp only [Array.getD_eq_getD_getElem?, List.getElem?_toArray, List.getElem?_cons_succ, List.getElem?_cons_zero, Option.getD_some] at hs4
          clear hs
          clear hbs
          have h30 := hp
          clear hp
          have hg30 := (getD_bool _ _).1 h30
          clear hf
          (try simp only [h30, hg30])
          go_simp
          try dsimp only
          refine hK.out _ _ ?_ ?_
          · change Fr [] _ _
            ((repeat (first | (with_reducible exact Fr.refl _ _) | (with_reducible assumption) | (with_reducible refine Fr.drew ?_) | (with_reducible refine Fr.drewN ?_ _) | (with_reducible refine Fr.alloc ?_ _) | (with_reducible refine Fr.setL ?_ _ _ _ ?_) | (focus (refine Or.inl ?_; simp; done)) | (focus (refine Or.inr ?_; simp; done)) | (focus (refine Or.inr ?_; simp; omega)) | (focus (refine Or.inr ?_; omega)))); done)
          · simp only [nth]
            first | (unfold Is; rfl) | (unfold Any; exact trivial) | exact IsSl.new _ _ _ _ | assumption
        · intro ac wx hf hbs hs hp K hK
          simp only [waits, holdsA, nth, Is, Any, List.filter_cons, List.filter_nil, List.map_cons, List.map_nil, Region.binds, if_true, true_and, and_true, Nat.reduceAdd, List.getElem?_cons_zero, List.getElem?_cons_succ, Option.bind_some, Array.getD_eq_getD_getElem?] at hp
          clear hs
          clear hbs
          obtain ⟨h33, h30⟩ := hp
          have hg30 := (getD_bool _ _).1 h30
          have cx := ka2 wx hf
          clear hf
          (try simp only [h33, h30, hg30])
          go_simp
          try dsimp only
          refine hK.out _ _ ?_ ?_
          · change Fr [] _ _
            ((repeat (first | (with_reducible exact Fr.refl _ _) | (with_reducible assumption) | (with_reducible refine Fr.drew ?_) | (with_reducible refine Fr.drewN ?_ _) | (with_reducible refine Fr.alloc ?_ _) | (with_reducible refine Fr.setL ?_ _ _ _ ?_) | (focus (refine Or.inl ?_; simp; done)) | (focus (refine Or.inr ?_; simp; done)) | (focus (refine Or.inr ?_; simp; omega)) | (focus (refine Or.inr ?_; omega)))); done)
          · simp only [nth]
            first | (unfold Is; rfl) | (unfold Any; exact trivial) | exact IsSl.new _ _ _ _ | assumption
        · intro ac wx hf hbs hs hp K hK
          simp only [waits, holdsA, nth, Is, Any, List.filter_cons, List.filter_nil, List.map_cons, List.map_nil, Region.binds, if_true, true_and, and_true, Nat.reduceAdd, List.getElem?_cons_zero, List.getElem?_cons_succ, Option.bind_some, Array.getD_eq_getD_getElem?] at hp
          clear hs
          clear hbs
          obtain ⟨h32, h34, h30, h30_2⟩ := hp
          have hg30 := (getD_bool _ _).1 h30
          have hbx := (HBDz.out.fr hf).1
          have hbl := hl0.fr hf
          clear hf
          (try simp only [h32, h34, h30, hg30])
          go_simp
          go_at_call 15
          refine (r_Same _ sd ⟨bA, l.length, bc⟩ l l hbx hbl hl5).mono ?_
          rintro e w' ⟨rfl, fz⟩
          rw [show (l == l) = true by simp]
          exact hK.out _ _ fz rfl
        · intro ac wx hf hbs hs hp K hK
          simp only [waits, holdsA, nth, Is, Any, List.filter_cons, List.filter_nil, List.map_cons, List.map_nil, Region.binds, if_true, true_and, and_true, Nat.reduceAdd, List.getElem?_cons_zero, List.getElem?_cons_succ, Option.bind_some, Array.getD_eq_getD_getElem?] at hp
          clear hs
          clear hbs
          obtain ⟨h35, h30⟩ := hp
          have hg30 := (getD_bool _ _).1 h30
          clear hf
          (try simp only [h35, h30, hg30])
          go_simp
          try dsimp only
          refine hK.out _ _ ?_ ?_
          · change Fr [] _ _
            ((repeat (first | (with_reducible exact Fr.refl _ _) | (with_reducible assumption) | (with_reducible refine Fr.drew ?_) | (with_reducible refine Fr.drewN ?_ _) | (with_reducible refine Fr.alloc ?_ _) | (with_reducible refine Fr.setL ?_ _ _ _ ?_) | (focus (refine Or.inl ?_; simp; done)) | (focus (refine Or.inr ?_; simp; done)) | (focus (refine Or.inr ?_; simp; omega)) | (focus (refine Or.inr ?_; omega)))); done)
          · simp only [nth]
            first | (unfold Is; rfl) | (unfold Any; exact trivial) | exact IsSl.new _ _ _ _ | assumption
        · intro ac wx hf hbs hs hp K hK
          simp only [waits, holdsA, nth, Is, Any, List.filter_cons, List.filter_nil, List.map_cons, List.map_nil, Region.binds, if_true, true_and, and_true, Nat.reduceAdd, List.getElem?_cons_zero, List.getElem?_cons_succ, Option.bind_some, Array.getD_eq_getD_getElem?] at hp
          clear hs
          clear hbs
          obtain ⟨h30, h36⟩ := hp
          clear hf
          (try simp only [h30, h36])
          go_simp
          try dsimp only
          refine hK.out _ _ ?_ ?_
          · change Fr [] _ _
            ((repeat (first | (with_reducible exact Fr.refl _ _) | (with_reducible assumption) | (with_reducible refine Fr.drew ?_) | (with_reducible refine Fr.drewN ?_ _) | (with_reducible refine Fr.alloc ?_ _) | (with_reducible refine Fr.setL ?_ _ _ _ ?_) | (focus (refine Or.inl ?_; simp; done)) | (focus (refine Or.inr ?_; simp; done)) | (focus (refine Or.inr ?_; simp; omega)) | (focus (refine Or.inr ?_; omega)))); done)
          · simp only [nth]
            first | (unfold Is; rfl) | (unfold Any; exact trivial) | exact IsSl.new _ _ _ _ | assumption
      case hD =>
        intro xv wx hf hp
        simp only [List.take_succ_cons, List.take_zero, List.drop_succ_cons, List.drop_zero, fill, List.setIfInBounds_toArray, List.set_cons_zero, List.set_cons_succ, Nat.reduceAdd, Act.put]
        rw [show live 38 (deadC [none, none, none, none, none, none, none, none, none, none, none, none, none, none, none, none, none, none, none, none, none, none, none, none, none, none, none, none, none, none, none, none, none, none, none, none, none, none]) = [0, 1, 2, 3, 4, 5, 6, 7, 8, 9, 10, 11, 12, 13, 14, 15, 16, 17, 18, 19, 20, 21, 22, 23, 24, 25, 26, 27, 28, 29, 30, 31, 32, 33, 34, 35, 36, 37] from by decide] at hp
        simp only [holds, nth, Is, Any, true_and, and_true] at hp
        obtain ⟨p0, p1, p2, p3, p4, p5, p6, p7, p8, p9, p10, p11, p12, p13, p14, p15, p16, p17, p18, p19, p20, p21, p22, p23, p24, p25, p26, p27, p28, p29, p30, p31, p32, p33, p34, p35, p36, p37⟩ := hp
        have F13 := fz.tr hf
        simp only [p37]
        clear p0 p1 p2 p3 p4 p5 p6 p7 p8 p9 p10 p11 p12 p13 p14 p15 p16 p17 p18 p19 p20 p21 p22 p23 p24 p25 p26 p27 p28 p29 p30 p31 p32 p33 p34 p35 p36 kx0 kx1 kx2 kx3 kx4 kx5 kx6 kx7 kx8 kx9 kx10 kcx kd1 kp0 kp1 kp2 kp3 kp4 kp5 ka2 hf hl0
        go_wp2
        go_roundw
        case rel => exact ⟨k + 1, by go_num, by omega, F13⟩
        case measure => simp [intOf]; omega
    · have dk : decide ((k : Int) < (H.length : Int)) = false := by simp; omega
      have F8 := F6.out.tr f8
      clear f8
      go_wp2
      go_ret
      exact ⟨by simp, F8⟩

end Go.Proofs.Ytgmpikaibeenmaa
