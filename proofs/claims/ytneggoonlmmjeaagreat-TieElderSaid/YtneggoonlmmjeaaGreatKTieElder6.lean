/- Lemmas: TieDa, TieDb, TieDc, TieDd, TieDe, Arr. No condition. -/
import Derived.Test.YtneggoonlmmjeaaGreatKTieElder5
namespace Go.Proofs.YtneggoonlmmjeaaGreat
open Go.RowKit Go.Shelf
set_option linter.unusedVariables false
set_option linter.unusedSimpArgs false
set_option maxRecDepth 100000

theorem r_2_10 : rowsM 2 10 = ⟨[12, 10, 6], 8, true⟩ := by kernel_rfl
/-- It asks, by a number. -/
def askM' (c : CM) (n r v : Int) (b : Bool) : TM := { newM c 4 8 with state := 2, own := n, retries := r, tm := [(29, v)], poll := b }
def askD' (n : Int) : PD := ⟨8, 4, false, 2, 3, 0, 0, true, numB n⟩
theorem ask_0 (c : CM) (n : Int) : doM (newM c 4 8) 0 n = { askM' c n 0 c.ak true with send := [askD' n], used := true } := by
  have e : (newM c 4 8).state.toNat = 0 := rfl
  unfold doM doB
  rw [e, r_0_0]
  rfl
/-- It is connected. -/
def upM (c : CM) (n r : Int) (b : Bool) : TM := { newM c 4 8 with state := 8, own := n, retries := r, epoch := 1, poll := b }
def uaD (l : List Int) : PD := ⟨4, 8, true, 2, 5, 0, 0, true, l⟩
def dmD (l : List Int) : PD := ⟨4, 8, true, 2, 6, 0, 0, true, l⟩
theorem typ_ua (a b c d : Int) : typM (uaD [a, b, c, d]) = 2 := by rfl
theorem hearE_ua (m : TM) (a b c d : Int) : hearE m (uaD [a, b, c, d]) = 10 := by rfl
theorem hear_up (c : CM) (n r v : Int) (p : Bool) (x0 x1 x2 x3 : Int) (hn : numG [x0, x1, x2, x3] = n) : hearM (askM' c n r v p) (uaD [x0, x1, x2, x3]) = { upM c n r true with say := [6], p := some (uaD [x0, x1, x2, x3]) } := by
  have e1 := hearE_ua (askM' c n r v p) x0 x1 x2 x3
  have e2 : hearN (askM' c n r v p) (uaD [x0, x1, x2, x3]) = n := by unfold hearN; rw [e1]; exact hn
  have e3 : hearB (askM' c n r v p) (uaD [x0, x1, x2, x3]) = beginM (askM' c n r v p) (some (uaD [x0, x1, x2, x3])) true 0 := by unfold hearB; rw [e1]; rfl
  have e4 : hearR (askM' c n r v p) (uaD [x0, x1, x2, x3]) = (false, beginM (askM' c n r v p) (some (uaD [x0, x1, x2, x3])) true 0) := by
    unfold hearR numberedM
    rw [e1, e2, e3, if_neg (show ¬((10 : Int) = 8) by decide), if_pos rfl]
    have : decide (n ≠ (beginM (askM' c n r v p) (some (uaD [x0, x1, x2, x3])) true 0).own) = false := decide_eq_false (fun hh => hh rfl)
    rw [this]
  unfold hearM
  rw [e4, if_neg (fun h => by cases h), e1]
  show evM (rowsM 2 10) _ = _
  rw [r_2_10]
  rfl
/-- A connection that was made behind w0: how it stands. -/
structure OwnT (w0 wr : World) (t : Nat) (v : TV) (m : TM) : Prop where
  is : IsTie wr v m
  t : v.t = t
  n0 : w0.heap.size ≤ v.n0
  fr : Fr [] w0 wr
theorem OwnT.fr0 {w0 w1 w2 : World} {t : Nat} {v : TV} {m : TM} (h : OwnT w0 w1 t v m) (f : Fr [] w1 w2) : OwnT w0 w2 t v m := ⟨h.is.fr0 f, h.t, h.n0, h.fr.tr f⟩
theorem OwnT.off {w0 w1 : World} {t : Nat} {v : TV} {m : TM} (h : OwnT w0 w1 t v m) : ∀ x ∈ v.foot, w0.heap.size ≤ x := fun x hx => Nat.le_trans h.n0 (h.is.low.2 x hx)
theorem OwnT.step {w0 w1 w2 : World} {t : Nat} {v v' : TV} {m m' : TM} (h : OwnT w0 w1 t v m) (T : Turned w1 w2 v v') (k : IsTie w2 v' m') : OwnT w0 w2 t v' m' :=
  ⟨k, T.t.trans h.t, by rw [T.n0]; exact h.n0, h.fr.trans T.fr (fun x hx => .inr (h.off x hx))⟩
/-- A call hands out, and leaves it so. -/
def GivesO (w0 w1 : World) (t : Nat) (v : TV) (m : TM) (r : Ending) (w' : World) : Prop := ∃ x v', r = .returned x ∧ OutV w' m v'.foot x ∧ OwnT w0 w' t v' (clearO m) ∧ Fr v.foot w1 w' ∧ ∀ x ∈ v'.foot, x ∈ v.foot ∨ w1.heap.size ≤ x
theorem OwnT.go {w0 w1 : World} {t : Nat} {v : TV} {m M : TM} (h : OwnT w0 w1 t v m) {f : FuncId} {xs : Array Value} (c : Calls Tryz.prog f xs w1 (Gives w1 v M)) : Calls Tryz.prog f xs w1 (GivesO w0 w1 t v M) :=
  c.mono fun _ _ ⟨x, v', e, ho, k, T⟩ => ⟨x, v', e, ho, h.step T k, T.fr, T.new⟩
theorem OwnT.doC {w0 w1 : World} {t : Nat} {v : TV} {m : TM} (h : OwnT w0 w1 t v m) (e : Nat) (n : Int) (j k : Nat) (hi : Inv j k m) (he : e ≤ 7) (h5 : e ≠ 5) (hn : 0 ≤ n ∧ n < 4294967296) (hj : j + 20 ≤ 1000000) :
    Calls Tryz.prog 15 #[.pointer (some ⟨t, 0, none⟩), .int .i64 e, .int .i64 n] w1 (GivesO w0 w1 t v (doM m e n)) := by
  have c := tie_Do w1 v m e j k n h.is hi hn he h5 (by omega)
  rw [h.t] at c
  exact h.go c
theorem OwnT.hearC {w0 w1 : World} {t : Nat} {v : TV} {m : TM} (h : OwnT w0 w1 t v m) (d : PD) (s : Sl) (y : Value) (j k : Nat) (hi : Inv j k m) (ho : hearOk m d) (hs : ∀ N, Bts N w1 s d.info) (hby : ∀ x ∈ d.info, 0 ≤ x ∧ x ≤ 255) (hf : rowFr m.state.toNat (hearE m d).toNat = false) (hj : j + 20 ≤ 1000000) :
    Calls Tryz.prog 22 #[.pointer (some ⟨t, 0, none⟩), d.val s, y] w1 (GivesO w0 w1 t v (hearM m d)) := by
  have c := tie_Hear w1 v m d s y j k h.is hi ho (hs _) hby hf hj
  rw [h.t] at c
  exact h.go c
theorem OwnT.stateC {w0 w1 : World} {t : Nat} {v : TV} {m : TM} (h : OwnT w0 w1 t v m) :
    Calls Tryz.prog 18 #[.pointer (some ⟨t, 0, none⟩)] w1 fun e w' => e = .returned (.int .i64 m.state) ∧ w1 = w' := by
  have c := tie_State w1 v m h.is
  rw [h.t] at c
  exact c
theorem OwnT.epochC {w0 w1 : World} {t : Nat} {v : TV} {m : TM} (h : OwnT w0 w1 t v m) :
    Calls Tryz.prog 53 #[.pointer (some ⟨t, 0, none⟩)] w1 fun e w' => e = .returned (.int .i64 m.epoch) ∧ w1 = w' := by
  have c := tie_Epoch w1 v m h.is
  rw [h.t] at c
  exact c
theorem OwnT.timersC {w0 w1 : World} {t : Nat} {v : TV} {m : TM} (h : OwnT w0 w1 t v m) :
    Calls Tryz.prog 33 #[.pointer (some ⟨t, 0, none⟩)] w1 fun e w' => e = .returned (.int .i64 m.tm.length) ∧ w1 = w' := by
  have c := tie_Timers w1 v m h.is
  rw [h.t] at c
  exact c
theorem OwnT.numbersC {w0 w1 : World} {t : Nat} {v : TV} {m : TM} (h : OwnT w0 w1 t v m) :
    Calls Tryz.prog 55 #[.pointer (some ⟨t, 0, none⟩)] w1 fun e w' => e = .returned (.tuple #[.int .i64 m.own, .int .i64 m.other]) ∧ Fr [] w1 w' := by
  have c := tie_Numbers w1 v m h.is
  rw [h.t] at c
  exact c
theorem OwnT.newC {w0 w1 : World} {c : CM} (hok : c.ok) (f : Fr [] w0 w1) :
    Calls Tryz.prog 13 #[c.val, .int .i64 4, .int .i64 8] w1 fun e w' => ∃ t v, e = .returned (.tuple #[.pointer (some ⟨t, 0, none⟩), .int .i64 0]) ∧ OwnT w0 w' t v (newM c 4 8) := by
  obtain ⟨h1, h2, h3, h4, h5⟩ := c.ok_iff.1 hok
  refine (tie_New c 4 8 w1 h1 h2 h3 h4 rfl rfl h5).mono ?_
  rintro e w' ⟨v, rfl, k, hp, hn, g⟩
  exact ⟨v.t, v, rfl, k, rfl, by rw [hn]; exact f.size, f.tr g⟩
/-- What is behind a connection stays as it was where it lies apart. -/
theorem OutV.send {w w' : World} {m : TM} {F : List Nat} {os oy ok : Sl} {d : PD} {k : Nat} (ha : ∀ x ∈ os.blk ++ (oy.blk ++ ok.blk), x ∉ F) (h : PRow 0 0 os m.send w) (hk : m.send[k]? = some d) (f : Fr F w w') :
    ∃ b, os.A = some ⟨b, 0, none⟩ ∧ w'.cell? ⟨b, k * 9 + 2, none⟩ = some (.bool d.rs) ∧ w'.cell? ⟨b, k * 9 + 3, none⟩ = some (.int .i64 d.fm) ∧ w'.cell? ⟨b, k * 9 + 4, none⟩ = some (.int .i64 d.kd) ∧ w'.cell? ⟨b, k * 9 + 5, none⟩ = some (.int .i64 d.ns) ∧ w'.cell? ⟨b, k * 9 + 6, none⟩ = some (.int .i64 d.nr) ∧ w'.cell? ⟨b, k * 9 + 7, none⟩ = some (.bool d.po) := by
  obtain ⟨b, sd, hA, hb, c0, c1, c2, c3, c4, c5, c6, c7, c8⟩ := h.get hk
  have hn : b ∉ F := ha b (List.mem_append_left _ (by simp [Sl.blk, hA]))
  exact ⟨b, hA, f.cell c2 hn, f.cell c3 hn, f.cell c4 hn, f.cell c5 hn, f.cell c6 hn, f.cell c7 hn⟩
end Go.Proofs.YtneggoonlmmjeaaGreat
namespace Go.Proofs.YtneggoonlmmjeaaGreat
open Go.RowKit Go.Shelf
set_option linter.unusedVariables false
set_option linter.unusedSimpArgs false
set_option maxRecDepth 100000

set_option maxHeartbeats 2000000 in
theorem ref1_Put4 (w : World) (n : Int) (h0 : 0 ≤ n) (h1 : n < 4294967296) :
    Calls Tryz.prog 93 #[.int .i64 n, .int .i64 4] w fun e w' => ∃ s : Sl, e = .returned (.slice s.A s.n s.c) ∧ NewRow w w' 5 1 s (numB n).length ((numB n).map (Value.int .u8)) ∧ Fr [] w w' := by
  obtain ⟨i0, hi0, hz0, hz1, hz2⟩ := u8_info
  have hun : Tryz.prog.underlying 49 = some (.slice 5) := Tryz.underlying49
  have d0 : decide (n < 0) = false := by simp; omega
  have hsh : n / 4294967296 = 0 := by omega
  go_enter Tryz.func93, Tryz.ntmps93
  have d1 : decide (4294967296 ≤ n) = false := by simp; omega
  go_wp2
  clear hsh d0 d1
  go_loopw [5, 6] (fun bv i wr => ∃ j : Nat, ∃ s : Sl, bv = .slice s.A s.n s.c ∧ i = .int .i64 (3 - (j : Int)) ∧ j ≤ 4 ∧ Fr [] w wr ∧ NewRow w wr 5 1 s ((numB n).take j).length (((numB n).take j).map (Value.int .u8))) (fun _ i _ => (intOf i + 1).toNat)
  case atStart => exact ⟨0, Sl.nil, rfl, rfl, by omega, Fr.refl _ _, NewRow.nil _ _ _ _⟩
  case round =>
    obtain ⟨j, s, rfl, rfl, hj, fr, hr⟩ := hrel
    obtain rfl | rfl | rfl | rfl | rfl : j = 0 ∨ j = 1 ∨ j = 2 ∨ j = 3 ∨ j = 4 := by omega
    · have ho := hr
      have HF := Lib.hid fr
      have HO := Lib.hid ho
      have F2 := Lib.hid (fr.alloc (.cells #[.int .u8 (n / 16777216)] 5))
      have HO2 := Lib.hid (own_fr ho.own ((Fr.refl [] wr).alloc (.cells #[.int .u8 (n / 16777216)] 5)))
      have HN2 := Lib.hid (ho.fr ((Fr.refl [] wr).alloc (.cells #[.int .u8 (n / 16777216)] 5)))
      clear ho hr fr
      go_wp2_with (at_builtin; refine wpList_push rfl _ _ 49 rfl 5 i0 (.int .u8 0) 1 1 hun hi0 hz0 hz1 hz2 rfl (by decide) s 0 _ rfl HO2.out _ 1 [.int .u8 (n / 16777216)] rfl Src.one rfl (by intro u hu; simp at hu; subst hu; rfl) (by unfold maxLen; omega) (by omega) ?_)
      intro s3 w3 hp
      have h3 := HN2.out.push F2.out.size hp
      have F3 := HN2.out.frOf F2.out hp
      clear hp
      go_wp2
      go_roundw
      case rel => exact ⟨1, s3, rfl, by go_num, by omega, F3, h3⟩
      case measure => simp [intOf]
    · have ho := hr
      have HF := Lib.hid fr
      have HO := Lib.hid ho
      have F2 := Lib.hid (fr.alloc (.cells #[.int .u8 (n / 65536 % 256)] 5))
      have HO2 := Lib.hid (own_fr ho.own ((Fr.refl [] wr).alloc (.cells #[.int .u8 (n / 65536 % 256)] 5)))
      have HN2 := Lib.hid (ho.fr ((Fr.refl [] wr).alloc (.cells #[.int .u8 (n / 65536 % 256)] 5)))
      clear ho hr fr
      go_wp2_with (at_builtin; refine wpList_push rfl _ _ 49 rfl 5 i0 (.int .u8 0) 1 1 hun hi0 hz0 hz1 hz2 rfl (by decide) s 1 _ rfl HO2.out _ 1 [.int .u8 (n / 65536 % 256)] rfl Src.one rfl (by intro u hu; simp at hu; subst hu; rfl) (by unfold maxLen; omega) (by omega) ?_)
      intro s3 w3 hp
      have h3 := HN2.out.push F2.out.size hp
      have F3 := HN2.out.frOf F2.out hp
      clear hp
      go_wp2
      go_roundw
      case rel => exact ⟨2, s3, rfl, by go_num, by omega, F3, h3⟩
      case measure => simp [intOf]
    · have ho := hr
      have HF := Lib.hid fr
      have HO := Lib.hid ho
      have F2 := Lib.hid (fr.alloc (.cells #[.int .u8 (n / 256 % 256)] 5))
      have HO2 := Lib.hid (own_fr ho.own ((Fr.refl [] wr).alloc (.cells #[.int .u8 (n / 256 % 256)] 5)))
      have HN2 := Lib.hid (ho.fr ((Fr.refl [] wr).alloc (.cells #[.int .u8 (n / 256 % 256)] 5)))
      clear ho hr fr
      go_wp2_with (at_builtin; refine wpList_push rfl _ _ 49 rfl 5 i0 (.int .u8 0) 1 1 hun hi0 hz0 hz1 hz2 rfl (by decide) s 2 _ rfl HO2.out _ 1 [.int .u8 (n / 256 % 256)] rfl Src.one rfl (by intro u hu; simp at hu; subst hu; rfl) (by unfold maxLen; omega) (by omega) ?_)
      intro s3 w3 hp
      have h3 := HN2.out.push F2.out.size hp
      have F3 := HN2.out.frOf F2.out hp
      clear hp
      go_wp2
      go_roundw
      case rel => exact ⟨3, s3, rfl, by go_num, by omega, F3, h3⟩
      case measure => simp [intOf]
    · have ho := hr
      have HF := Lib.hid fr
      have HO := Lib.hid ho
      have F2 := Lib.hid (fr.alloc (.cells #[.int .u8 (n % 256)] 5))
      have HO2 := Lib.hid (own_fr ho.own ((Fr.refl [] wr).alloc (.cells #[.int .u8 (n % 256)] 5)))
      have HN2 := Lib.hid (ho.fr ((Fr.refl [] wr).alloc (.cells #[.int .u8 (n % 256)] 5)))
      clear ho hr fr
      go_wp2_with (at_builtin; refine wpList_push rfl _ _ 49 rfl 5 i0 (.int .u8 0) 1 1 hun hi0 hz0 hz1 hz2 rfl (by decide) s 3 _ rfl HO2.out _ 1 [.int .u8 (n % 256)] rfl Src.one rfl (by intro u hu; simp at hu; subst hu; rfl) (by unfold maxLen; omega) (by omega) ?_)
      intro s3 w3 hp
      have h3 := HN2.out.push F2.out.size hp
      have F3 := HN2.out.frOf F2.out hp
      clear hp
      go_wp2
      go_roundw
      case rel => exact ⟨4, s3, rfl, by go_num, by omega, F3, h3⟩
      case measure => simp [intOf]
    · have H := Lib.hid (And.intro hr fr)
      clear hr fr
      go_wp2
      go_ret
      exact ⟨s, rfl, H.out.1, H.out.2⟩

theorem ref6_Number (w : World) (n : Int) (h0 : 0 ≤ n) (h1 : n < 4294967296) :
    Calls Tryz.prog 54 #[.int .i64 n] w fun e w' => ∃ s : Sl, e = .returned (.slice s.A s.n s.c) ∧ (∀ N, Bts N w' s (numB n)) ∧ Fr [] w w' := by
  go_enter Tryz.func54, Tryz.ntmps54
  have d0 : decide (n < 0) = false := by simp; omega
  have d1 : decide (4294967296 ≤ n) = false := by simp; omega
  go_wp2_with fail
  refine (ref1_Put4 w n h0 h1).mono ?_
  rintro e w1 ⟨s, rfl, hr, f⟩
  have hn : s.n = 4 := own_n hr.own
  have H := Lib.hid (And.intro hr f)
  clear hr f
  clear d0 d1
  obtain ⟨A, n', c⟩ := s
  simp only at hn
  subst hn
  go_wp2
  go_ret
  exact ⟨_, rfl, fun N => Bts.own H.out.1.own (numB_wf n h0 h1) N, H.out.2⟩

end Go.Proofs.YtneggoonlmmjeaaGreat
namespace Go.Proofs.YtneggoonlmmjeaaGreat
open Go.RowKit Go.Shelf
set_option linter.unusedVariables false
set_option linter.unusedSimpArgs false
set_option maxRecDepth 100000

theorem askM'_inv (c : CM) (n r v : Int) (b : Bool) (h : c.ok) (hn : 0 ≤ n ∧ n < 4294967296) (hr : 0 ≤ r ∧ r ≤ 1000) (hv : 1 ≤ v ∧ v ≤ 10000) : Inv 1000 0 (askM' c n r v b) :=
  { (newM_inv c 4 8 h).mono (Nat.zero_le 1000) (Nat.le_refl 0) with st := (by show (0 : Int) ≤ 2 ∧ (2 : Int) < 14; omega), own := hn, retries := hr, tm := ⟨by simp [askM'], fun x hx => by simp [askM'] at hx; subst hx; omega⟩ }
theorem upM_inv (c : CM) (n r : Int) (b : Bool) (h : c.ok) (hn : 0 ≤ n ∧ n < 4294967296) (hr : 0 ≤ r ∧ r ≤ 1000) : Inv 1000 0 (upM c n r b) :=
  { (newM_inv c 4 8 h).mono (Nat.zero_le 1000) (Nat.le_refl 0) with st := (by show (0 : Int) ≤ 8 ∧ (8 : Int) < 14; omega), own := hn, retries := hr, epoch := (by show (0 : Int) ≤ 1 ∧ (1 : Int) ≤ (1000 : Nat); omega) }
theorem ask_clear (c : CM) (n : Int) : clearO { askM' c n 0 c.ak true with send := [askD' n], used := true } = askM' c n 0 c.ak true := rfl
theorem up_clear (c : CM) (n r : Int) (l : List Int) : clearO { upM c n r true with say := [6], p := some (uaD l) } = upM c n r true := rfl
theorem CM.ak_ok {c : CM} (h : c.ok) : 1 ≤ c.ak ∧ c.ak ≤ 10000 := by unfold CM.ok tick at h; omega

set_option maxHeartbeats 4000000 in
theorem law19_awake (w : World) : Calls Tryz.prog 19 #[] w fun e w' => e = .returned (.bool true) ∧ Fr [] w w' := by
  go_enter Tryz.func19, Tryz.ntmps19
  go_wp2_with fail
  refine (law19_Made 3 w).mono ?_
  rintro e w1 ⟨rfl, f1⟩
  have HOK := Lib.hid (madeM_ok 3)
  obtain ⟨c, hc⟩ : ∃ c, madeM 3 = c := ⟨_, rfl⟩
  rw [hc] at HOK
  simp only [hc]
  clear hc
  go_wp2_with fail
  refine (law19_Config c w1).mono ?_
  rintro e w2 ⟨rfl, f2⟩
  have hnew := OwnT.newC HOK.out (f1.tr f2)
  clear f1 f2
  go_wp2_with fail
  refine hnew.mono ?_
  rintro e w3 ⟨t, v, rfl, o3⟩
  clear hnew
  have hdo := o3.doC 0 7 0 0 (newM_inv c 4 8 HOK.out) (by omega) (by omega) (by omega) (by omega)
  rw [ask_0] at hdo
  clear o3
  go_wp2_with fail
  refine hdo.mono ?_
  rintro e w4 ⟨x, v4, rfl, ⟨os, oy, ok, ha, hx, -, -, -, hs, -, -⟩, o4, -⟩
  rw [ask_clear] at o4
  have hx : x = .agg #[.slice os.A 1 os.c, .slice oy.A 0 oy.c, .slice ok.A 0 ok.c, .bool true] := hx
  subst hx
  have HS := Lib.hid (And.intro ha hs)
  have H4 := Lib.hid o4
  have HD := Lib.hid (rfl : true = true)
  clear ha hs o4 hdo
  go_wp2_with fail
  obtain ⟨wA, hwA⟩ : ∃ wA, w4.alloc (.cells #[.slice os.A 1 os.c, .slice oy.A 0 oy.c, .slice ok.A 0 ok.c, .bool true] 36) = wA := ⟨_, rfl⟩
  obtain ⟨wB, hwB⟩ : ∃ wB, wA.alloc (.cells #[.int .u8 0, .int .u8 0, .int .u8 0, .int .u8 7] 5) = wB := ⟨_, rfl⟩
  obtain ⟨O, hO⟩ : ∃ O, w4.heap.size = O := ⟨_, rfl⟩
  have bO : Blk wA O #[.slice os.A 1 os.c, .slice oy.A 0 oy.c, .slice ok.A 0 ok.c, .bool true] 36 := by rw [← hwA, ← hO]; exact Blk.new w4 _ _
  have hsz : wA.heap.size = O + 1 := by rw [← hwA, World.size_alloc, hO]
  have bN : Blk wB (O + 1) #[.int .u8 0, .int .u8 0, .int .u8 0, .int .u8 7] 5 := by rw [← hwB, ← hsz]; exact Blk.new wA _ _
  have fA : Fr [] w4 wA := by rw [← hwA]; exact (Fr.refl _ _).alloc _
  have fB : Fr [] wA wB := by rw [← hwB]; exact (Fr.refl _ _).alloc _
  have hb : ∀ N, Bts N wB ⟨some ⟨O + 1, 0, none⟩, 4, 4⟩ [0, 0, 0, 7] := fun N => ⟨Ints.blk (l := [0, 0, 0, 7]) bN (by decide), fun _ b' hb => .inr (by simp [Sl.blk] at hb; subst hb; exact ⟨_, _, bN⟩)⟩
  have oB := H4.out.fr0 (fA.tr fB)
  have hh := oB.hearC (uaD [0, 0, 0, 7]) _ (.int .i64 8) 1000 0 (askM'_inv c 7 0 c.ak true HOK.out (by omega) (by omega) (CM.ak_ok HOK.out)) ⟨typ_ua 0 0 0 7, rfl, rfl⟩ hb (by intro x hx; simp [uaD] at hx; omega) rfl (by omega)
  rw [hear_up c 7 0 c.ak true 0 0 0 7 rfl] at hh
  have hOn : O ∉ v4.foot := fun hm => by have := H4.out.is.lt O hm; omega
  have HB := Lib.hid (And.intro (bO.fr fB (by simp)) (And.intro hOn (fA.tr fB)))
  clear bO bN fA fB hb oB hOn hsz HD
  simp only [hwA, hwB, hO]
  clear hwA hwB
  refine hh.mono ?_
  rintro e w5 ⟨y, v5, rfl, ⟨os', oy', ok', ha', hy, -, -, -, -, hyo, -⟩, o5, f5, n5⟩
  rw [up_clear] at o5
  have hy : y = .agg #[.slice os'.A 0 os'.c, .slice oy'.A 1 oy'.c, .slice ok'.A 0 ok'.c, .bool false] := hy
  subst hy
  have bO5 := HB.out.1.fr f5 HB.out.2.1
  obtain ⟨b, hA, s2, s3, s4, s5, s6, s7⟩ := OutV.send (m := { askM' c 7 0 c.ak true with send := [askD' 7], used := true }) (k := 0) HS.out.1 (HS.out.2.fr HB.out.2.2) rfl f5
  obtain ⟨oA, on, oc⟩ := os
  simp only at hA
  subst hA
  obtain ⟨d, hyA, hyc⟩ := own_at (n := 1) hyo (by decide)
  obtain ⟨yA, yn, yc⟩ := oy'
  simp only at hyA
  subst hyA
  have y0 := hyc 0 (.int .i64 6) rfl
  have c0 := bO5.cell 0 rfl
  have c3 := bO5.cell 3 rfl
  simp only [List.getElem_toArray, List.getElem_cons_zero, List.getElem_cons_succ] at c0 c3
  have fz := (Fr.refl [] w5).alloc (.cells #[.slice os'.A 0 os'.c, .slice (some ⟨d, 0, none⟩) 1 yc, .slice ok'.A 0 ok'.c, .bool false] 36)
  have o6 := o5.fr0 fz
  have hst := o6.stateC
  have hep := o6.epochC
  have HF := Lib.hid o6.fr
  have e1 : (upM c 7 0 true).state = 8 := rfl
  have e2 : (upM c 7 0 true).epoch = 1 := rfl
  rw [e1] at hst
  rw [e2] at hep
  have HST := Lib.hid hst
  have HEP := Lib.hid hep
  clear hst hep e1 e2 o6 o5 f5 n5 hyo hyc ha' hh bO5
  simp only [askD', Nat.zero_mul, Nat.zero_add] at s4
  have g0 := fz.cell c0 (by simp)
  have g3 := fz.cell c3 (by simp)
  have g4 := fz.cell s4 (by simp)
  have gy := fz.cell y0 (by simp)
  clear c0 c3 s2 s3 s4 s5 s6 s7 y0 fz
  go_wp2_with fail
  refine HST.out.mono ?_
  rintro e w6 ⟨rfl, rfl⟩
  go_wp2_with fail
  refine HEP.out.mono ?_
  rintro e w6 ⟨rfl, rfl⟩
  go_wp2
  go_ret
  exact ⟨rfl, HF.out⟩
end Go.Proofs.YtneggoonlmmjeaaGreat
namespace Go.Proofs.YtneggoonlmmjeaaGreat
open Go.RowKit Go.Shelf
set_option linter.unusedVariables false
set_option linter.unusedSimpArgs false
set_option maxRecDepth 100000

theorem r_8_2 : rowsM 8 2 = ⟨[12, 1, 33, 13], 6, true⟩ := by kernel_rfl
theorem r_8_3 : rowsM 8 3 = ⟨[12, 0, 33, 13], 3, true⟩ := by kernel_rfl
/-- It asks again, connected as it is. -/
def reM (c : CM) (n s : Int) : TM := { newM c 4 8 with state := s, own := n, epoch := 1, poll := true, tm := [(29, c.ak)] }
def endD (n : Int) : PD := ⟨8, 4, false, 2, 4, 0, 0, true, numB n⟩
theorem re_3 (c : CM) (n : Int) : doM (upM c n 0 true) 3 n = { reM c n 3 with send := [askD' n], used := true } := by
  have e : (upM c n 0 true).state.toNat = 8 := rfl
  unfold doM doB
  rw [e, r_8_3]
  rfl
theorem re_2 (c : CM) (n : Int) : doM (upM c n 0 true) 2 n = { reM c n 6 with send := [endD n], used := true } := by
  have e : (upM c n 0 true).state.toNat = 8 := rfl
  unfold doM doB
  rw [e, r_8_2]
  rfl
theorem reM_inv (c : CM) (n s : Int) (h : c.ok) (hn : 0 ≤ n ∧ n < 4294967296) (hs : 0 ≤ s ∧ s < 14) : Inv 1000 0 (reM c n s) :=
  { (newM_inv c 4 8 h).mono (Nat.zero_le 1000) (Nat.le_refl 0) with st := hs, own := hn, epoch := (by show (0 : Int) ≤ 1 ∧ (1 : Int) ≤ (1000 : Nat); omega), tm := ⟨by simp [reM], fun x hx => by have := CM.ak_ok h; simp [reM] at hx; subst hx; dsimp only; omega⟩ }
/-- Who waits. -/
structure Waits (M : TM) (n : Int) (s k : Int) : Prop where
  inv : Inv 1000 0 M
  near : M.near = 4
  there : M.there = 8
  st : M.state = s
  sts : s = 2 ∨ s = 3 ∨ s = 6
  own : M.own = n
  tm : (M.tm.length : Int) = k
theorem waits_ask (c : CM) (n : Int) (h : c.ok) (hn : 0 ≤ n ∧ n < 4294967296) : Waits (askM' c n 0 c.ak true) n 2 1 := ⟨askM'_inv c n 0 c.ak true h hn (by omega) (CM.ak_ok h), rfl, rfl, rfl, .inl rfl, rfl, rfl⟩
theorem waits_re (c : CM) (n s : Int) (h : c.ok) (hn : 0 ≤ n ∧ n < 4294967296) (hs : s = 2 ∨ s = 3 ∨ s = 6) : Waits (reM c n s) n s 1 := ⟨reM_inv c n s h hn (by omega), rfl, rfl, rfl, hs, rfl, rfl⟩
theorem numG_numB (n : Int) (h0 : 0 ≤ n) (h1 : n < 4294967296) : numG (numB n) = n := by
  show (((0 * 256 + n / 16777216) * 256 + n / 65536 % 256) * 256 + n / 256 % 256) * 256 + n % 256 = n
  omega
/-- An elder answer. -/
def oldD (b : Bool) (x : Int) : PD := bif b then dmD (numB x) else uaD (numB x)
theorem oldD_info (b : Bool) (x : Int) : (oldD b x).info = numB x := by cases b <;> rfl
theorem oldD_ok (M : TM) (n s k : Int) (h : Waits M n s k) (b : Bool) (x : Int) : hearOk M (oldD b x) := by
  cases b
  · exact ⟨rfl, h.there.symm, h.near.symm⟩
  · exact ⟨rfl, h.there.symm, h.near.symm⟩
theorem oldD_E (M : TM) (b : Bool) (x : Int) : hearE M (oldD b x) = bif b then 11 else 10 := by cases b <;> rfl
theorem oldD_fr (M : TM) (n s k : Int) (h : Waits M n s k) (b : Bool) (x : Int) : rowFr M.state.toNat (hearE M (oldD b x)).toNat = false := by
  rw [oldD_E, h.st]
  rcases h.sts with e | e | e <;> rw [e] <;> cases b <;> rfl
theorem oldD_hear (M : TM) (n s k : Int) (h : Waits M n s k) (b : Bool) (x : Int) (h0 : 0 ≤ x) (h1 : x < 4294967296) (hx : x ≠ n) : hearM M (oldD b x) = beginM M (some (oldD b x)) true 0 := by
  have e1 := oldD_E M b x
  have e2 : hearN M (oldD b x) = x := by
    unfold hearN
    rw [e1, oldD_info, numG_numB x h0 h1]
    cases b <;> rfl
  have e3 : hearB M (oldD b x) = beginM M (some (oldD b x)) true 0 := by
    unfold hearB
    rw [e1]
    cases b <;> rfl
  have e4 : hearR M (oldD b x) = (true, beginM M (some (oldD b x)) true 0) := by
    unfold hearR numberedM
    rw [e1, e2, e3]
    have ho : (beginM M (some (oldD b x)) true 0).own = n := h.own
    have hs : (beginM M (some (oldD b x)) true 0).state = s := h.st
    rw [ho, hs]
    cases b
    · show (if (10 : Int) = 8 then _ else if (10 : Int) = 10 then (decide (x ≠ n), _) else _) = _
      rw [if_neg (by decide), if_pos rfl, decide_eq_true hx]
    · show (if (11 : Int) = 8 then _ else if (11 : Int) = 10 then _ else if (11 : Int) = 11 then (decide ((s = 2 ∨ s = 3 ∨ s = 6) ∧ x ≠ n), _) else _) = _
      rw [if_neg (by decide), if_neg (by decide), if_pos rfl, decide_eq_true ⟨h.sts, hx⟩]
  unfold hearM
  rw [e4, if_pos rfl]
theorem old_state (M : TM) (n s k : Int) (h : Waits M n s k) (p : Option PD) : (clearO (beginM M p true 0)).state = s ∧ (clearO (beginM M p true 0)).own = n ∧ ((clearO (beginM M p true 0)).tm.length : Int) = k := ⟨h.st, h.own, h.tm⟩
end Go.Proofs.YtneggoonlmmjeaaGreat
namespace Go.Proofs.YtneggoonlmmjeaaGreat
open Go.RowKit Go.Shelf
set_option linter.unusedVariables false
set_option linter.unusedSimpArgs false
set_option maxRecDepth 100000

theorem u8_and (k m : Int) : ∃ b : Bool, (bits .and .u8 k m == m) = b := ⟨_, rfl⟩
set_option maxHeartbeats 8000000 in
theorem elder_walk (w : World) (n k x y : Int) (hx : 0 ≤ x ∧ x ≤ 65535) (hy : 0 ≤ y ∧ y ≤ 65535) : Calls Tryz.prog 20 #[.int .i64 n, .int .u8 k, .int .u32 x, .int .u16 y] w fun e w' => e = .returned (.bool true) ∧ Fr [] w w' := by
  have ww1 : IntKind.i64.wrap x = x := IntWalk.i64_in _ (by omega)
  have ww2 : IntKind.i64.wrap y = y := IntWalk.i64_in _ (by omega)
  have ww3 : IntKind.i64.wrap (y + 1) = y + 1 := IntWalk.i64_in _ (by omega)
  go_enter Tryz.func20, Tryz.ntmps20
  go_wp2_with fail
  refine (law19_Made n w).mono ?_
  rintro e w1 ⟨rfl, f1⟩
  have HOK := Lib.hid (madeM_ok n)
  obtain ⟨c, hc⟩ : ∃ c, madeM n = c := ⟨_, rfl⟩
  rw [hc] at HOK
  simp only [hc]
  clear hc
  go_wp2_with fail
  refine (law19_Config c w1).mono ?_
  rintro e w2 ⟨rfl, f2⟩
  have hnew := OwnT.newC HOK.out (f1.tr f2)
  clear f1 f2
  go_wp2_with fail
  refine hnew.mono ?_
  rintro e w3 ⟨t, v, rfl, o3⟩
  clear hnew
  have H3 := Lib.hid o3
  clear o3
  by_cases hxy : x = y + 1
  · have eb : (x == y + 1) = true := by rw [beq_iff_eq]; exact hxy
    have HXY := Lib.hid hxy
    clear hxy
    go_wp2_with fail
    refine (law19_awake w3).mono ?_
    rintro e w4 ⟨rfl, f4⟩
    go_wp2
    go_ret
    exact ⟨rfl, H3.out.fr.tr f4⟩
  have eb : (x == y + 1) = false := by rw [beq_eq_false_iff_ne]; exact hxy
  have HXY := Lib.hid hxy
  clear hxy
  go_wp2_with fail
  refine (law19_awake w3).mono ?_
  rintro e w4 ⟨rfl, f4⟩
  have o4 := H3.out.fr0 f4
  clear f4 eb
  have hdo := o4.doC 0 (y + 1) 0 0 (newM_inv c 4 8 HOK.out) (by omega) (by omega) (by omega) (by omega)
  rw [ask_0] at hdo
  clear o4
  go_wp2_with fail
  refine hdo.mono ?_
  rintro e w5 ⟨x5, v5, rfl, -, o5, -⟩
  rw [ask_clear] at o5
  have H5 := Lib.hid o5
  clear o5 hdo
  obtain ⟨b1, hb1⟩ := u8_and k 1
  obtain ⟨b2, hb2⟩ := u8_and k 2
  obtain ⟨b4, hb4⟩ := u8_and k 4
  cases b1 with
  | false =>
    have HW := Lib.hid (waits_ask c (y + 1) HOK.out (by omega))
    obtain ⟨M, hM⟩ : ∃ M, askM' c (y + 1) 0 c.ak true = M := ⟨_, rfl⟩
    rw [hM] at HW H5
    clear hM
    obtain ⟨s, hs⟩ : ∃ s : Int, s = 2 := ⟨_, rfl⟩
    rw [← hs] at HW
    clear hs
    have hst := H5.out.stateC
    rw [HW.out.st] at hst
    have HST := Lib.hid hst
    have hti := H5.out.timersC
    rw [HW.out.tm] at hti
    have HTI := Lib.hid hti
    clear hst hti
    go_wp2_with fail
    refine HST.out.mono ?_
    rintro e wq ⟨rfl, rfl⟩
    go_wp2_with fail
    refine HTI.out.mono ?_
    rintro e wq ⟨rfl, rfl⟩
    clear HST HTI
    go_wp2_with fail
    refine (ref6_Number _ x (by omega) (by omega)).mono ?_
    rintro e w6 ⟨sx, rfl, hbx, f6⟩
    have hsn : sx.n = 4 := (hbx 0).n
    obtain ⟨sA, sn, sc⟩ := sx
    simp only at hsn
    subst hsn
    have HX := Lib.hid (And.intro hbx (H5.out.fr0 f6))
    clear hbx f6
    cases b4 with
    | false =>
      have fz := (Fr.refl [] w6).alloc (.cells #[.int .i64 4, .int .i64 8, .bool true, .int .i64 2, .int .i64 5, .int .i64 0, .int .i64 0, .bool true, .slice sA 4 sc] 52)
      have hh := (HX.out.2.fr0 fz).hearC (oldD false x) ⟨sA, 4, sc⟩ (.int .i64 9) 1000 0 HW.out.inv (oldD_ok M _ _ _ HW.out _ x) (fun N => by rw [oldD_info]; exact (HX.out.1 N).fr fz) (by rw [oldD_info]; intro z hz; simp [numB] at hz; omega) (oldD_fr M _ _ _ HW.out _ x) (by omega)
      rw [oldD_hear M _ _ _ HW.out false x (by omega) (by omega) HXY.out] at hh
      clear fz
      go_wp2_with fail
      refine hh.mono ?_
      rintro e w7 ⟨x7, v7, rfl, ⟨os, oy, ok, -, h7, -⟩, o7, -⟩
      have h7 : x7 = .agg #[.slice os.A 0 os.c, .slice oy.A 0 oy.c, .slice ok.A 0 ok.c, .bool false] := h7
      subst h7
      obtain ⟨z1, z2, z3⟩ := old_state M _ _ _ HW.out (some (oldD false x))
      have bO := Blk.new w7 #[.slice os.A 0 os.c, .slice oy.A 0 oy.c, .slice ok.A 0 ok.c, .bool false] 36
      have fO := (Fr.refl [] w7).alloc (.cells #[.slice os.A 0 os.c, .slice oy.A 0 oy.c, .slice ok.A 0 ok.c, .bool false] 36)
      have o8 := o7.fr0 fO
      have hnu := o8.numbersC
      rw [z2] at hnu
      have H8 := Lib.hid (And.intro bO o8)
      have HZ := Lib.hid (And.intro z1 z3)
      clear hh o7 bO fO o8 z1 z2 z3
      go_wp2_with fail
      refine hnu.mono ?_
      rintro e w9 ⟨rfl, f9⟩
      have bO := H8.out.1.fr f9 (by simp)
      have c0 := bO.cell 0 rfl
      have c1 := bO.cell 1 rfl
      have c2 := bO.cell 2 rfl
      have c3 := bO.cell 3 rfl
      simp only [List.getElem_toArray, List.getElem_cons_zero, List.getElem_cons_succ] at c0 c1 c2 c3
      have o9 := H8.out.2.fr0 f9
      have hst := o9.stateC
      have hti := o9.timersC
      rw [HZ.out.1] at hst
      rw [HZ.out.2] at hti
      have HST := Lib.hid hst
      have HTI := Lib.hid hti
      have HF := Lib.hid o9.fr
      clear bO f9 o9 hst hti hnu
      have es : (s == s) = true := beq_self_eq_true s
      have ey : (y + 1 == y + 1) = true := beq_self_eq_true _
      go_wp2_with fail
      refine HST.out.mono ?_
      rintro e wq ⟨rfl, rfl⟩
      go_wp2_with fail
      refine HTI.out.mono ?_
      rintro e wq ⟨rfl, rfl⟩
      go_wp2
      go_ret
      exact ⟨rfl, HF.out⟩
    | true =>
      have fz := (Fr.refl [] w6).alloc (.cells #[.int .i64 4, .int .i64 8, .bool true, .int .i64 2, .int .i64 6, .int .i64 0, .int .i64 0, .bool true, .slice sA 4 sc] 52)
      have hh := (HX.out.2.fr0 fz).hearC (oldD true x) ⟨sA, 4, sc⟩ (.int .i64 9) 1000 0 HW.out.inv (oldD_ok M _ _ _ HW.out _ x) (fun N => by rw [oldD_info]; exact (HX.out.1 N).fr fz) (by rw [oldD_info]; intro z hz; simp [numB] at hz; omega) (oldD_fr M _ _ _ HW.out _ x) (by omega)
      rw [oldD_hear M _ _ _ HW.out true x (by omega) (by omega) HXY.out] at hh
      clear fz
      go_wp2_with fail
      refine hh.mono ?_
      rintro e w7 ⟨x7, v7, rfl, ⟨os, oy, ok, -, h7, -⟩, o7, -⟩
      have h7 : x7 = .agg #[.slice os.A 0 os.c, .slice oy.A 0 oy.c, .slice ok.A 0 ok.c, .bool false] := h7
      subst h7
      obtain ⟨z1, z2, z3⟩ := old_state M _ _ _ HW.out (some (oldD true x))
      have bO := Blk.new w7 #[.slice os.A 0 os.c, .slice oy.A 0 oy.c, .slice ok.A 0 ok.c, .bool false] 36
      have fO := (Fr.refl [] w7).alloc (.cells #[.slice os.A 0 os.c, .slice oy.A 0 oy.c, .slice ok.A 0 ok.c, .bool false] 36)
      have o8 := o7.fr0 fO
      have hnu := o8.numbersC
      rw [z2] at hnu
      have H8 := Lib.hid (And.intro bO o8)
      have HZ := Lib.hid (And.intro z1 z3)
      clear hh o7 bO fO o8 z1 z2 z3
      go_wp2_with fail
      refine hnu.mono ?_
      rintro e w9 ⟨rfl, f9⟩
      have bO := H8.out.1.fr f9 (by simp)
      have c0 := bO.cell 0 rfl
      have c1 := bO.cell 1 rfl
      have c2 := bO.cell 2 rfl
      have c3 := bO.cell 3 rfl
      simp only [List.getElem_toArray, List.getElem_cons_zero, List.getElem_cons_succ] at c0 c1 c2 c3
      have o9 := H8.out.2.fr0 f9
      have hst := o9.stateC
      have hti := o9.timersC
      rw [HZ.out.1] at hst
      rw [HZ.out.2] at hti
      have HST := Lib.hid hst
      have HTI := Lib.hid hti
      have HF := Lib.hid o9.fr
      clear bO f9 o9 hst hti hnu
      have es : (s == s) = true := beq_self_eq_true s
      have ey : (y + 1 == y + 1) = true := beq_self_eq_true _
      go_wp2_with fail
      refine HST.out.mono ?_
      rintro e wq ⟨rfl, rfl⟩
      go_wp2_with fail
      refine HTI.out.mono ?_
      rintro e wq ⟨rfl, rfl⟩
      go_wp2
      go_ret
      exact ⟨rfl, HF.out⟩
  | true =>
    go_wp2_with fail
    refine (ref6_Number _ (y + 1) (by omega) (by omega)).mono ?_
    rintro e w6 ⟨sx, rfl, hbx, f6⟩
    have hsn : sx.n = 4 := (hbx 0).n
    obtain ⟨sA, sn, sc⟩ := sx
    simp only at hsn
    subst hsn
    have hh := (H5.out.fr0 f6).hearC (uaD (numB (y + 1))) ⟨sA, 4, sc⟩ (.int .i64 9) 1000 0 (askM'_inv c (y + 1) 0 c.ak true HOK.out (by omega) (by omega) (CM.ak_ok HOK.out)) ⟨rfl, rfl, rfl⟩ hbx (by intro z hz; simp [uaD, numB] at hz; omega) rfl (by omega)
    rw [show hearM (askM' c (y + 1) 0 c.ak true) (uaD (numB (y + 1))) = _ from hear_up c (y + 1) 0 c.ak true _ _ _ _ (numG_numB (y + 1) (by omega) (by omega))] at hh
    clear hbx f6
    go_wp2_with fail
    refine hh.mono ?_
    rintro e w7 ⟨x7, v7, rfl, -, o7, -⟩
    rw [up_clear] at o7
    clear hh H5
    cases b2 with
    | false =>
      have hdo := o7.doC 3 (y + 1) 1000 0 (upM_inv c (y + 1) 0 true HOK.out (by omega) (by omega)) (by omega) (by omega) (by omega) (by omega)
      rw [re_3] at hdo
      clear o7
      go_wp2_with fail
      refine hdo.mono ?_
      rintro e w5 ⟨x5, v5, rfl, -, o5, -⟩
      have HW := Lib.hid (waits_re c (y + 1) 3 HOK.out (by omega) (by omega))
      have H5 := Lib.hid (show OwnT w w5 t v5 (reM c (y + 1) 3) from o5)
      obtain ⟨M, hM⟩ : ∃ M, reM c (y + 1) 3 = M := ⟨_, rfl⟩
      rw [hM] at HW H5
      clear hM o5 hdo
      obtain ⟨s, hs⟩ : ∃ s : Int, s = 3 := ⟨_, rfl⟩
      rw [← hs] at HW
      clear hs
      have hst := H5.out.stateC
      rw [HW.out.st] at hst
      have HST := Lib.hid hst
      have hti := H5.out.timersC
      rw [HW.out.tm] at hti
      have HTI := Lib.hid hti
      clear hst hti
      go_wp2_with fail
      refine HST.out.mono ?_
      rintro e wq ⟨rfl, rfl⟩
      go_wp2_with fail
      refine HTI.out.mono ?_
      rintro e wq ⟨rfl, rfl⟩
      clear HST HTI
      go_wp2_with fail
      refine (ref6_Number _ x (by omega) (by omega)).mono ?_
      rintro e w6 ⟨sx, rfl, hbx, f6⟩
      have hsn : sx.n = 4 := (hbx 0).n
      obtain ⟨sA, sn, sc⟩ := sx
      simp only at hsn
      subst hsn
      have HX := Lib.hid (And.intro hbx (H5.out.fr0 f6))
      clear hbx f6
      cases b4 with
      | false =>
        have fz := (Fr.refl [] w6).alloc (.cells #[.int .i64 4, .int .i64 8, .bool true, .int .i64 2, .int .i64 5, .int .i64 0, .int .i64 0, .bool true, .slice sA 4 sc] 52)
        have hh := (HX.out.2.fr0 fz).hearC (oldD false x) ⟨sA, 4, sc⟩ (.int .i64 9) 1000 0 HW.out.inv (oldD_ok M _ _ _ HW.out _ x) (fun N => by rw [oldD_info]; exact (HX.out.1 N).fr fz) (by rw [oldD_info]; intro z hz; simp [numB] at hz; omega) (oldD_fr M _ _ _ HW.out _ x) (by omega)
        rw [oldD_hear M _ _ _ HW.out false x (by omega) (by omega) HXY.out] at hh
        clear fz
        go_wp2_with fail
        refine hh.mono ?_
        rintro e w7 ⟨x7, v7, rfl, ⟨os, oy, ok, -, h7, -⟩, o7, -⟩
        have h7 : x7 = .agg #[.slice os.A 0 os.c, .slice oy.A 0 oy.c, .slice ok.A 0 ok.c, .bool false] := h7
        subst h7
        obtain ⟨z1, z2, z3⟩ := old_state M _ _ _ HW.out (some (oldD false x))
        have bO := Blk.new w7 #[.slice os.A 0 os.c, .slice oy.A 0 oy.c, .slice ok.A 0 ok.c, .bool false] 36
        have fO := (Fr.refl [] w7).alloc (.cells #[.slice os.A 0 os.c, .slice oy.A 0 oy.c, .slice ok.A 0 ok.c, .bool false] 36)
        have o8 := o7.fr0 fO
        have hnu := o8.numbersC
        rw [z2] at hnu
        have H8 := Lib.hid (And.intro bO o8)
        have HZ := Lib.hid (And.intro z1 z3)
        clear hh o7 bO fO o8 z1 z2 z3
        go_wp2_with fail
        refine hnu.mono ?_
        rintro e w9 ⟨rfl, f9⟩
        have bO := H8.out.1.fr f9 (by simp)
        have c0 := bO.cell 0 rfl
        have c1 := bO.cell 1 rfl
        have c2 := bO.cell 2 rfl
        have c3 := bO.cell 3 rfl
        simp only [List.getElem_toArray, List.getElem_cons_zero, List.getElem_cons_succ] at c0 c1 c2 c3
        have o9 := H8.out.2.fr0 f9
        have hst := o9.stateC
        have hti := o9.timersC
        rw [HZ.out.1] at hst
        rw [HZ.out.2] at hti
        have HST := Lib.hid hst
        have HTI := Lib.hid hti
        have HF := Lib.hid o9.fr
        clear bO f9 o9 hst hti hnu
        have es : (s == s) = true := beq_self_eq_true s
        have ey : (y + 1 == y + 1) = true := beq_self_eq_true _
        go_wp2_with fail
        refine HST.out.mono ?_
        rintro e wq ⟨rfl, rfl⟩
        go_wp2_with fail
        refine HTI.out.mono ?_
        rintro e wq ⟨rfl, rfl⟩
        go_wp2
        go_ret
        exact ⟨rfl, HF.out⟩
      | true =>
        have fz := (Fr.refl [] w6).alloc (.cells #[.int .i64 4, .int .i64 8, .bool true, .int .i64 2, .int .i64 6, .int .i64 0, .int .i64 0, .bool true, .slice sA 4 sc] 52)
        have hh := (HX.out.2.fr0 fz).hearC (oldD true x) ⟨sA, 4, sc⟩ (.int .i64 9) 1000 0 HW.out.inv (oldD_ok M _ _ _ HW.out _ x) (fun N => by rw [oldD_info]; exact (HX.out.1 N).fr fz) (by rw [oldD_info]; intro z hz; simp [numB] at hz; omega) (oldD_fr M _ _ _ HW.out _ x) (by omega)
        rw [oldD_hear M _ _ _ HW.out true x (by omega) (by omega) HXY.out] at hh
        clear fz
        go_wp2_with fail
        refine hh.mono ?_
        rintro e w7 ⟨x7, v7, rfl, ⟨os, oy, ok, -, h7, -⟩, o7, -⟩
        have h7 : x7 = .agg #[.slice os.A 0 os.c, .slice oy.A 0 oy.c, .slice ok.A 0 ok.c, .bool false] := h7
        subst h7
        obtain ⟨z1, z2, z3⟩ := old_state M _ _ _ HW.out (some (oldD true x))
        have bO := Blk.new w7 #[.slice os.A 0 os.c, .slice oy.A 0 oy.c, .slice ok.A 0 ok.c, .bool false] 36
        have fO := (Fr.refl [] w7).alloc (.cells #[.slice os.A 0 os.c, .slice oy.A 0 oy.c, .slice ok.A 0 ok.c, .bool false] 36)
        have o8 := o7.fr0 fO
        have hnu := o8.numbersC
        rw [z2] at hnu
        have H8 := Lib.hid (And.intro bO o8)
        have HZ := Lib.hid (And.intro z1 z3)
        clear hh o7 bO fO o8 z1 z2 z3
        go_wp2_with fail
        refine hnu.mono ?_
        rintro e w9 ⟨rfl, f9⟩
        have bO := H8.out.1.fr f9 (by simp)
        have c0 := bO.cell 0 rfl
        have c1 := bO.cell 1 rfl
        have c2 := bO.cell 2 rfl
        have c3 := bO.cell 3 rfl
        simp only [List.getElem_toArray, List.getElem_cons_zero, List.getElem_cons_succ] at c0 c1 c2 c3
        have o9 := H8.out.2.fr0 f9
        have hst := o9.stateC
        have hti := o9.timersC
        rw [HZ.out.1] at hst
        rw [HZ.out.2] at hti
        have HST := Lib.hid hst
        have HTI := Lib.hid hti
        have HF := Lib.hid o9.fr
        clear bO f9 o9 hst hti hnu
        have es : (s == s) = true := beq_self_eq_true s
        have ey : (y + 1 == y + 1) = true := beq_self_eq_true _
        go_wp2_with fail
        refine HST.out.mono ?_
        rintro e wq ⟨rfl, rfl⟩
        go_wp2_with fail
        refine HTI.out.mono ?_
        rintro e wq ⟨rfl, rfl⟩
        go_wp2
        go_ret
        exact ⟨rfl, HF.out⟩
    | true =>
      have hdo := o7.doC 2 (y + 1) 1000 0 (upM_inv c (y + 1) 0 true HOK.out (by omega) (by omega)) (by omega) (by omega) (by omega) (by omega)
      rw [re_2] at hdo
      clear o7
      go_wp2_with fail
      refine hdo.mono ?_
      rintro e w5 ⟨x5, v5, rfl, -, o5, -⟩
      have HW := Lib.hid (waits_re c (y + 1) 6 HOK.out (by omega) (by omega))
      have H5 := Lib.hid (show OwnT w w5 t v5 (reM c (y + 1) 6) from o5)
      obtain ⟨M, hM⟩ : ∃ M, reM c (y + 1) 6 = M := ⟨_, rfl⟩
      rw [hM] at HW H5
      clear hM o5 hdo
      obtain ⟨s, hs⟩ : ∃ s : Int, s = 6 := ⟨_, rfl⟩
      rw [← hs] at HW
      clear hs
      have hst := H5.out.stateC
      rw [HW.out.st] at hst
      have HST := Lib.hid hst
      have hti := H5.out.timersC
      rw [HW.out.tm] at hti
      have HTI := Lib.hid hti
      clear hst hti
      go_wp2_with fail
      refine HST.out.mono ?_
      rintro e wq ⟨rfl, rfl⟩
      go_wp2_with fail
      refine HTI.out.mono ?_
      rintro e wq ⟨rfl, rfl⟩
      clear HST HTI
      go_wp2_with fail
      refine (ref6_Number _ x (by omega) (by omega)).mono ?_
      rintro e w6 ⟨sx, rfl, hbx, f6⟩
      have hsn : sx.n = 4 := (hbx 0).n
      obtain ⟨sA, sn, sc⟩ := sx
      simp only at hsn
      subst hsn
      have HX := Lib.hid (And.intro hbx (H5.out.fr0 f6))
      clear hbx f6
      cases b4 with
      | false =>
        have fz := (Fr.refl [] w6).alloc (.cells #[.int .i64 4, .int .i64 8, .bool true, .int .i64 2, .int .i64 5, .int .i64 0, .int .i64 0, .bool true, .slice sA 4 sc] 52)
        have hh := (HX.out.2.fr0 fz).hearC (oldD false x) ⟨sA, 4, sc⟩ (.int .i64 9) 1000 0 HW.out.inv (oldD_ok M _ _ _ HW.out _ x) (fun N => by rw [oldD_info]; exact (HX.out.1 N).fr fz) (by rw [oldD_info]; intro z hz; simp [numB] at hz; omega) (oldD_fr M _ _ _ HW.out _ x) (by omega)
        rw [oldD_hear M _ _ _ HW.out false x (by omega) (by omega) HXY.out] at hh
        clear fz
        go_wp2_with fail
        refine hh.mono ?_
        rintro e w7 ⟨x7, v7, rfl, ⟨os, oy, ok, -, h7, -⟩, o7, -⟩
        have h7 : x7 = .agg #[.slice os.A 0 os.c, .slice oy.A 0 oy.c, .slice ok.A 0 ok.c, .bool false] := h7
        subst h7
        obtain ⟨z1, z2, z3⟩ := old_state M _ _ _ HW.out (some (oldD false x))
        have bO := Blk.new w7 #[.slice os.A 0 os.c, .slice oy.A 0 oy.c, .slice ok.A 0 ok.c, .bool false] 36
        have fO := (Fr.refl [] w7).alloc (.cells #[.slice os.A 0 os.c, .slice oy.A 0 oy.c, .slice ok.A 0 ok.c, .bool false] 36)
        have o8 := o7.fr0 fO
        have hnu := o8.numbersC
        rw [z2] at hnu
        have H8 := Lib.hid (And.intro bO o8)
        have HZ := Lib.hid (And.intro z1 z3)
        clear hh o7 bO fO o8 z1 z2 z3
        go_wp2_with fail
        refine hnu.mono ?_
        rintro e w9 ⟨rfl, f9⟩
        have bO := H8.out.1.fr f9 (by simp)
        have c0 := bO.cell 0 rfl
        have c1 := bO.cell 1 rfl
        have c2 := bO.cell 2 rfl
        have c3 := bO.cell 3 rfl
        simp only [List.getElem_toArray, List.getElem_cons_zero, List.getElem_cons_succ] at c0 c1 c2 c3
        have o9 := H8.out.2.fr0 f9
        have hst := o9.stateC
        have hti := o9.timersC
        rw [HZ.out.1] at hst
        rw [HZ.out.2] at hti
        have HST := Lib.hid hst
        have HTI := Lib.hid hti
        have HF := Lib.hid o9.fr
        clear bO f9 o9 hst hti hnu
        have es : (s == s) = true := beq_self_eq_true s
        have ey : (y + 1 == y + 1) = true := beq_self_eq_true _
        go_wp2_with fail
        refine HST.out.mono ?_
        rintro e wq ⟨rfl, rfl⟩
        go_wp2_with fail
        refine HTI.out.mono ?_
        rintro e wq ⟨rfl, rfl⟩
        go_wp2
        go_ret
        exact ⟨rfl, HF.out⟩
      | true =>
        have fz := (Fr.refl [] w6).alloc (.cells #[.int .i64 4, .int .i64 8, .bool true, .int .i64 2, .int .i64 6, .int .i64 0, .int .i64 0, .bool true, .slice sA 4 sc] 52)
        have hh := (HX.out.2.fr0 fz).hearC (oldD true x) ⟨sA, 4, sc⟩ (.int .i64 9) 1000 0 HW.out.inv (oldD_ok M _ _ _ HW.out _ x) (fun N => by rw [oldD_info]; exact (HX.out.1 N).fr fz) (by rw [oldD_info]; intro z hz; simp [numB] at hz; omega) (oldD_fr M _ _ _ HW.out _ x) (by omega)
        rw [oldD_hear M _ _ _ HW.out true x (by omega) (by omega) HXY.out] at hh
        clear fz
        go_wp2_with fail
        refine hh.mono ?_
        rintro e w7 ⟨x7, v7, rfl, ⟨os, oy, ok, -, h7, -⟩, o7, -⟩
        have h7 : x7 = .agg #[.slice os.A 0 os.c, .slice oy.A 0 oy.c, .slice ok.A 0 ok.c, .bool false] := h7
        subst h7
        obtain ⟨z1, z2, z3⟩ := old_state M _ _ _ HW.out (some (oldD true x))
        have bO := Blk.new w7 #[.slice os.A 0 os.c, .slice oy.A 0 oy.c, .slice ok.A 0 ok.c, .bool false] 36
        have fO := (Fr.refl [] w7).alloc (.cells #[.slice os.A 0 os.c, .slice oy.A 0 oy.c, .slice ok.A 0 ok.c, .bool false] 36)
        have o8 := o7.fr0 fO
        have hnu := o8.numbersC
        rw [z2] at hnu
        have H8 := Lib.hid (And.intro bO o8)
        have HZ := Lib.hid (And.intro z1 z3)
        clear hh o7 bO fO o8 z1 z2 z3
        go_wp2_with fail
        refine hnu.mono ?_
        rintro e w9 ⟨rfl, f9⟩
        have bO := H8.out.1.fr f9 (by simp)
        have c0 := bO.cell 0 rfl
        have c1 := bO.cell 1 rfl
        have c2 := bO.cell 2 rfl
        have c3 := bO.cell 3 rfl
        simp only [List.getElem_toArray, List.getElem_cons_zero, List.getElem_cons_succ] at c0 c1 c2 c3
        have o9 := H8.out.2.fr0 f9
        have hst := o9.stateC
        have hti := o9.timersC
        rw [HZ.out.1] at hst
        rw [HZ.out.2] at hti
        have HST := Lib.hid hst
        have HTI := Lib.hid hti
        have HF := Lib.hid o9.fr
        clear bO f9 o9 hst hti hnu
        have es : (s == s) = true := beq_self_eq_true s
        have ey : (y + 1 == y + 1) = true := beq_self_eq_true _
        go_wp2_with fail
        refine HST.out.mono ?_
        rintro e wq ⟨rfl, rfl⟩
        go_wp2_with fail
        refine HTI.out.mono ?_
        rintro e wq ⟨rfl, rfl⟩
        go_wp2
        go_ret
        exact ⟨rfl, HF.out⟩

theorem u16_le {x : Int} (h : (Lit.int .u16 x).wf = true) : 0 ≤ x ∧ x ≤ 65535 := by
  simp only [Lit.wf, IntKind.min, IntKind.max, IntKind.signed, IntKind.bits, Bool.and_eq_true, decide_eq_true_eq] at h
  simpa using h
set_option maxHeartbeats 2000000 in
theorem walk_TieElder (w : World) (n : Int) (hn : (Lit.int .i64 n).wf = true) (k : Int) (hk : (Lit.int .u8 k).wf = true) (a b : Int) (ha : (Lit.int .u16 a).wf = true) (hb : (Lit.int .u16 b).wf = true) :
    Calls Tryz.prog 4 #[.int .i64 n, .int .u8 k, .agg #[.int .u16 a, .int .u16 b]] w fun e w' => e = .returned (.bool true) ∧ Fr [] w w' := by
  have h1 := u16_le ha
  have h2 := u16_le hb
  have ww : IntKind.u32.wrap a = a := by have := h1; unfold IntKind.wrap; simp [IntKind.bits, IntKind.signed]; omega
  clear ha hb
  go_enter Tryz.func4, Tryz.ntmps4
  go_wp2_with fail
  refine (law19_awake _).mono ?_
  rintro e w1 ⟨rfl, f1⟩
  have f0 := (Fr.refl [] w)
  have bA := (Blk.new w #[.int .u16 a, .int .u16 b] 43).fr f1 (by simp)
  have c0 := bA.cell 0 rfl
  have c1 := bA.cell 1 rfl
  simp only [List.getElem_toArray, List.getElem_cons_zero, List.getElem_cons_succ] at c0 c1
  have HF := Lib.hid f1
  clear f1 bA
  go_wp2_with fail
  refine (elder_walk _ n k a b h1 h2).mono ?_
  rintro e w2 ⟨rfl, f2⟩
  go_wp2
  go_ret
  exact ⟨rfl, (f0.alloc _).tr (HF.out.tr f2)⟩
end Go.Proofs.YtneggoonlmmjeaaGreat
namespace Go.Proofs.YtneggoonlmmjeaaGreat
open Go.RowKit
set_option linter.unusedVariables false
theorem okWide_array {P : Program} {w : World} {r : Reach} {base : Nat} {t : TypeId} {v : Value} {n : Nat} {e : TypeId} (ht : P.underlying t = some (.array n e)) (h : Value.okWide P w r base t v) : ∃ cs, v = .agg cs ∧ cs.size = P.cellsOf t := by
  simp only [Value.okWide, ht] at h
  obtain ⟨cs, h1, h2, _⟩ := h
  exact ⟨cs, h1, h2⟩
theorem arr_open {H : Type} {enc : TypeId × Value → H} {P : Program} {w : World} {base : Nat} {spare : Nat → Bool} {held : Bool} {t e : TypeId} {n : Nat} {k : IntKind} {cs : Array Value} {d : DataW H} {p : List MemPlace}
    (he : P.underlying t = some (.array n e)) (hC : P.cellsOf t = n) (hE : P.cellsOf e = 1) (hu : P.underlying e = some (.int k))
    (h : DataW.Trod enc P w base spare held t (.agg cs) d p) :
    cs.size = n ∧ ∃ g : Nat → Int, ∀ j (hj : j < n), cs[j]? = some (.int k (g j)) ∧ (Lit.int k (g j)).wf = true := by
  obtain ⟨fuel, hf⟩ := h
  obtain ⟨xs, n', _, _, hcl, hxl, hfld⟩ := DataW.trod_array he hf
  have hsz : cs.size = n := by rw [hC] at hcl; simpa [Value.cells] using hcl
  refine ⟨hsz, ?_⟩
  have key : ∀ j, ∃ x : Int, ∀ hj : j < n, cs[j]? = some (.int k x) ∧ (Lit.int k x).wf = true := by
    intro j
    by_cases hj : j < n
    · have h1 := hfld j hj
      rw [hE, Nat.mul_one] at h1
      have hjc : j < cs.toList.length := by simp; omega
      have hone : ((Value.agg cs).cells.toList.drop j).take 1 = [cs.toList[j]] := by simp only [Value.cells]; rw [List.drop_eq_getElem_cons hjc]; rfl
      rw [hone] at h1
      have hjx : j < xs.length := by omega
      rw [List.getElem?_eq_getElem hjx] at h1
      obtain ⟨x, hx, _, hw⟩ := DataW.trod_int hu h1
      refine ⟨x, fun _ => ⟨?_, hw⟩⟩
      rw [Array.getElem?_eq_getElem (by omega)]
      simpa using hx
    · exact ⟨0, fun h => absurd h hj⟩
  exact ⟨fun j => Classical.choose (key j), fun j hj => Classical.choose_spec (key j) hj⟩
end Go.Proofs.YtneggoonlmmjeaaGreat
