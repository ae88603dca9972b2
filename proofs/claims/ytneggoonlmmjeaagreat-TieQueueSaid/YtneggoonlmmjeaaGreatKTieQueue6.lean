/- Lemmas: TieDa, TieDb, TieDc, TieDd, TieDf, TieDh. No condition. -/
import Derived.Test.YtneggoonlmmjeaaGreatKTieElder5
import Derived.ChangeSlices
import Derived.ChangeMaps
namespace Go.Proofs.YtneggoonlmmjeaaGreat
open Go.RowKit Go.Shelf
set_option linter.unusedVariables false
set_option linter.unusedSimpArgs false
set_option maxRecDepth 100000

theorem r_2_10 : rowsM 2 10 = ⟨[12, 10, 6], 8, true⟩ := by kernel_rfl
/-- It asks, by a number. -/
def askM' (c : CM) (n r v : Int) (b : Bool) : TM := { newM c 4 8 with state := 2, own := n, retries := r, tm := [(29, v)], poll := b }
def askD' (n : Int) : PD := ⟨8, 4, false, 2, 3, 0, 0, true, numB n⟩
theorem ask_0 (c : CM) (n : Int) : doM (newM c 4 8) 0 n = { askM' c n 0 c.ak true with send := [askD' n], used := true } := by
  have e : (newM c 4 8).state.toNat = 0 := rfl
  unfold doM doB
  rw [e, r_0_0]
  rfl
/-- It is connected. -/
def upM (c : CM) (n r : Int) (b : Bool) : TM := { newM c 4 8 with state := 8, own := n, retries := r, epoch := 1, poll := b }
def uaD (l : List Int) : PD := ⟨4, 8, true, 2, 5, 0, 0, true, l⟩
def dmD (l : List Int) : PD := ⟨4, 8, true, 2, 6, 0, 0, true, l⟩
theorem typ_ua (a b c d : Int) : typM (uaD [a, b, c, d]) = 2 := by rfl
theorem hearE_ua (m : TM) (a b c d : Int) : hearE m (uaD [a, b, c, d]) = 10 := by rfl
theorem hear_up (c : CM) (n r v : Int) (p : Bool) (x0 x1 x2 x3 : Int) (hn : numG [x0, x1, x2, x3] = n) : hearM (askM' c n r v p) (uaD [x0, x1, x2, x3]) = { upM c n r true with say := [6], p := some (uaD [x0, x1, x2, x3]) } := by
  have e1 := hearE_ua (askM' c n r v p) x0 x1 x2 x3
  have e2 : hearN (askM' c n r v p) (uaD [x0, x1, x2, x3]) = n := by unfold hearN; rw [e1]; exact hn
  have e3 : hearB (askM' c n r v p) (uaD [x0, x1, x2, x3]) = beginM (askM' c n r v p) (some (uaD [x0, x1, x2, x3])) true 0 := by unfold hearB; rw [e1]; rfl
  have e4 : hearR (askM' c n r v p) (uaD [x0, x1, x2, x3]) = (false, beginM (askM' c n r v p) (some (uaD [x0, x1, x2, x3])) true 0) := by
    unfold hearR numberedM
    rw [e1, e2, e3, if_neg (show ¬((10 : Int) = 8) by decide), if_pos rfl]
    have : decide (n ≠ (beginM (askM' c n r v p) (some (uaD [x0, x1, x2, x3])) true 0).own) = false := decide_eq_false (fun hh => hh rfl)
    rw [this]
  unfold hearM
  rw [e4, if_neg (fun h => by cases h), e1]
  show evM (rowsM 2 10) _ = _
  rw [r_2_10]
  rfl
/-- A connection that was made behind w0: how it stands. -/
structure OwnT (w0 wr : World) (t : Nat) (v : TV) (m : TM) : Prop where
  is : IsTie wr v m
  t : v.t = t
  n0 : w0.heap.size ≤ v.n0
  fr : Fr [] w0 wr
theorem OwnT.fr0 {w0 w1 w2 : World} {t : Nat} {v : TV} {m : TM} (h : OwnT w0 w1 t v m) (f : Fr [] w1 w2) : OwnT w0 w2 t v m := ⟨h.is.fr0 f, h.t, h.n0, h.fr.tr f⟩
theorem OwnT.off {w0 w1 : World} {t : Nat} {v : TV} {m : TM} (h : OwnT w0 w1 t v m) : ∀ x ∈ v.foot, w0.heap.size ≤ x := fun x hx => Nat.le_trans h.n0 (h.is.low.2 x hx)
theorem OwnT.step {w0 w1 w2 : World} {t : Nat} {v v' : TV} {m m' : TM} (h : OwnT w0 w1 t v m) (T : Turned w1 w2 v v') (k : IsTie w2 v' m') : OwnT w0 w2 t v' m' :=
  ⟨k, T.t.trans h.t, by rw [T.n0]; exact h.n0, h.fr.trans T.fr (fun x hx => .inr (h.off x hx))⟩
/-- A call hands out, and leaves it so. -/
def GivesO (w0 w1 : World) (t : Nat) (v : TV) (m : TM) (r : Ending) (w' : World) : Prop := ∃ x v', r = .returned x ∧ OutV w' m v'.foot x ∧ OwnT w0 w' t v' (clearO m) ∧ Fr v.foot w1 w' ∧ ∀ x ∈ v'.foot, x ∈ v.foot ∨ w1.heap.size ≤ x
theorem OwnT.go {w0 w1 : World} {t : Nat} {v : TV} {m M : TM} (h : OwnT w0 w1 t v m) {f : FuncId} {xs : Array Value} (c : Calls Tryz.prog f xs w1 (Gives w1 v M)) : Calls Tryz.prog f xs w1 (GivesO w0 w1 t v M) :=
  c.mono fun _ _ ⟨x, v', e, ho, k, T⟩ => ⟨x, v', e, ho, h.step T k, T.fr, T.new⟩
theorem OwnT.doC {w0 w1 : World} {t : Nat} {v : TV} {m : TM} (h : OwnT w0 w1 t v m) (e : Nat) (n : Int) (j k : Nat) (hi : Inv j k m) (he : e ≤ 7) (h5 : e ≠ 5) (hn : 0 ≤ n ∧ n < 4294967296) (hj : j + 20 ≤ 1000000) :
    Calls Tryz.prog 15 #[.pointer (some ⟨t, 0, none⟩), .int .i64 e, .int .i64 n] w1 (GivesO w0 w1 t v (doM m e n)) := by
  have c := tie_Do w1 v m e j k n h.is hi hn he h5 (by omega)
  rw [h.t] at c
  exact h.go c
theorem OwnT.hearC {w0 w1 : World} {t : Nat} {v : TV} {m : TM} (h : OwnT w0 w1 t v m) (d : PD) (s : Sl) (y : Value) (j k : Nat) (hi : Inv j k m) (ho : hearOk m d) (hs : ∀ N, Bts N w1 s d.info) (hby : ∀ x ∈ d.info, 0 ≤ x ∧ x ≤ 255) (hf : rowFr m.state.toNat (hearE m d).toNat = false) (hj : j + 20 ≤ 1000000) :
    Calls Tryz.prog 22 #[.pointer (some ⟨t, 0, none⟩), d.val s, y] w1 (GivesO w0 w1 t v (hearM m d)) := by
  have c := tie_Hear w1 v m d s y j k h.is hi ho (hs _) hby hf hj
  rw [h.t] at c
  exact h.go c
theorem OwnT.stateC {w0 w1 : World} {t : Nat} {v : TV} {m : TM} (h : OwnT w0 w1 t v m) :
    Calls Tryz.prog 18 #[.pointer (some ⟨t, 0, none⟩)] w1 fun e w' => e = .returned (.int .i64 m.state) ∧ w1 = w' := by
  have c := tie_State w1 v m h.is
  rw [h.t] at c
  exact c
theorem OwnT.epochC {w0 w1 : World} {t : Nat} {v : TV} {m : TM} (h : OwnT w0 w1 t v m) :
    Calls Tryz.prog 53 #[.pointer (some ⟨t, 0, none⟩)] w1 fun e w' => e = .returned (.int .i64 m.epoch) ∧ w1 = w' := by
  have c := tie_Epoch w1 v m h.is
  rw [h.t] at c
  exact c
theorem OwnT.timersC {w0 w1 : World} {t : Nat} {v : TV} {m : TM} (h : OwnT w0 w1 t v m) :
    Calls Tryz.prog 33 #[.pointer (some ⟨t, 0, none⟩)] w1 fun e w' => e = .returned (.int .i64 m.tm.length) ∧ w1 = w' := by
  have c := tie_Timers w1 v m h.is
  rw [h.t] at c
  exact c
theorem OwnT.numbersC {w0 w1 : World} {t : Nat} {v : TV} {m : TM} (h : OwnT w0 w1 t v m) :
    Calls Tryz.prog 55 #[.pointer (some ⟨t, 0, none⟩)] w1 fun e w' => e = .returned (.tuple #[.int .i64 m.own, .int .i64 m.other]) ∧ Fr [] w1 w' := by
  have c := tie_Numbers w1 v m h.is
  rw [h.t] at c
  exact c
theorem OwnT.newC {w0 w1 : World} {c : CM} (hok : c.ok) (f : Fr [] w0 w1) :
    Calls Tryz.prog 13 #[c.val, .int .i64 4, .int .i64 8] w1 fun e w' => ∃ t v, e = .returned (.tuple #[.pointer (some ⟨t, 0, none⟩), .int .i64 0]) ∧ OwnT w0 w' t v (newM c 4 8) := by
  obtain ⟨h1, h2, h3, h4, h5⟩ := c.ok_iff.1 hok
  refine (tie_New c 4 8 w1 h1 h2 h3 h4 rfl rfl h5).mono ?_
  rintro e w' ⟨v, rfl, k, hp, hn, g⟩
  exact ⟨v.t, v, rfl, k, rfl, by rw [hn]; exact f.size, f.tr g⟩
/-- What is behind a connection stays as it was where it lies apart. -/
theorem OutV.send {w w' : World} {m : TM} {F : List Nat} {os oy ok : Sl} {d : PD} {k : Nat} (ha : ∀ x ∈ os.blk ++ (oy.blk ++ ok.blk), x ∉ F) (h : PRow 0 0 os m.send w) (hk : m.send[k]? = some d) (f : Fr F w w') :
    ∃ b, os.A = some ⟨b, 0, none⟩ ∧ w'.cell? ⟨b, k * 9 + 2, none⟩ = some (.bool d.rs) ∧ w'.cell? ⟨b, k * 9 + 3, none⟩ = some (.int .i64 d.fm) ∧ w'.cell? ⟨b, k * 9 + 4, none⟩ = some (.int .i64 d.kd) ∧ w'.cell? ⟨b, k * 9 + 5, none⟩ = some (.int .i64 d.ns) ∧ w'.cell? ⟨b, k * 9 + 6, none⟩ = some (.int .i64 d.nr) ∧ w'.cell? ⟨b, k * 9 + 7, none⟩ = some (.bool d.po) := by
  obtain ⟨b, sd, hA, hb, c0, c1, c2, c3, c4, c5, c6, c7, c8⟩ := h.get hk
  have hn : b ∉ F := ha b (List.mem_append_left _ (by simp [Sl.blk, hA]))
  exact ⟨b, hA, f.cell c2 hn, f.cell c3 hn, f.cell c4 hn, f.cell c5 hn, f.cell c6 hn, f.cell c7 hn⟩
end Go.Proofs.YtneggoonlmmjeaaGreat
namespace Go.Proofs.YtneggoonlmmjeaaGreat
open Go.RowKit Go.Shelf
set_option linter.unusedVariables false
set_option linter.unusedSimpArgs false
set_option maxRecDepth 100000

set_option maxHeartbeats 2000000 in
theorem ref1_Put4 (w : World) (n : Int) (h0 : 0 ≤ n) (h1 : n < 4294967296) :
    Calls Tryz.prog 93 #[.int .i64 n, .int .i64 4] w fun e w' => ∃ s : Sl, e = .returned (.slice s.A s.n s.c) ∧ NewRow w w' 5 1 s (numB n).length ((numB n).map (Value.int .u8)) ∧ Fr [] w w' := by
  obtain ⟨i0, hi0, hz0, hz1, hz2⟩ := u8_info
  have hun : Tryz.prog.underlying 49 = some (.slice 5) := Tryz.underlying49
  have d0 : decide (n < 0) = false := by simp; omega
  have hsh : n / 4294967296 = 0 := by omega
  go_enter Tryz.func93, Tryz.ntmps93
  have d1 : decide (4294967296 ≤ n) = false := by simp; omega
  go_wp2
  clear hsh d0 d1
  go_loopw [5, 6] (fun bv i wr => ∃ j : Nat, ∃ s : Sl, bv = .slice s.A s.n s.c ∧ i = .int .i64 (3 - (j : Int)) ∧ j ≤ 4 ∧ Fr [] w wr ∧ NewRow w wr 5 1 s ((numB n).take j).length (((numB n).take j).map (Value.int .u8))) (fun _ i _ => (intOf i + 1).toNat)
  case atStart => exact ⟨0, Sl.nil, rfl, rfl, by omega, Fr.refl _ _, NewRow.nil _ _ _ _⟩
  case round =>
    obtain ⟨j, s, rfl, rfl, hj, fr, hr⟩ := hrel
    obtain rfl | rfl | rfl | rfl | rfl : j = 0 ∨ j = 1 ∨ j = 2 ∨ j = 3 ∨ j = 4 := by omega
    · have ho := hr
      have HF := Lib.hid fr
      have HO := Lib.hid ho
      have F2 := Lib.hid (fr.alloc (.cells #[.int .u8 (n / 16777216)] 5))
      have HO2 := Lib.hid (own_fr ho.own ((Fr.refl [] wr).alloc (.cells #[.int .u8 (n / 16777216)] 5)))
      have HN2 := Lib.hid (ho.fr ((Fr.refl [] wr).alloc (.cells #[.int .u8 (n / 16777216)] 5)))
      clear ho hr fr
      go_wp2_with (at_builtin; refine wpList_push rfl _ _ 49 rfl 5 i0 (.int .u8 0) 1 1 hun hi0 hz0 hz1 hz2 rfl (by decide) s 0 _ rfl HO2.out _ 1 [.int .u8 (n / 16777216)] rfl Src.one rfl (by intro u hu; simp at hu; subst hu; rfl) (by unfold maxLen; omega) (by omega) ?_)
      intro s3 w3 hp
      have h3 := HN2.out.push F2.out.size hp
      have F3 := HN2.out.frOf F2.out hp
      clear hp
      go_wp2
      go_roundw
      case rel => exact ⟨1, s3, rfl, by go_num, by omega, F3, h3⟩
      case measure => simp [intOf]
    · have ho := hr
      have HF := Lib.hid fr
      have HO := Lib.hid ho
      have F2 := Lib.hid (fr.alloc (.cells #[.int .u8 (n / 65536 % 256)] 5))
      have HO2 := Lib.hid (own_fr ho.own ((Fr.refl [] wr).alloc (.cells #[.int .u8 (n / 65536 % 256)] 5)))
      have HN2 := Lib.hid (ho.fr ((Fr.refl [] wr).alloc (.cells #[.int .u8 (n / 65536 % 256)] 5)))
      clear ho hr fr
      go_wp2_with (at_builtin; refine wpList_push rfl _ _ 49 rfl 5 i0 (.int .u8 0) 1 1 hun hi0 hz0 hz1 hz2 rfl (by decide) s 1 _ rfl HO2.out _ 1 [.int .u8 (n / 65536 % 256)] rfl Src.one rfl (by intro u hu; simp at hu; subst hu; rfl) (by unfold maxLen; omega) (by omega) ?_)
      intro s3 w3 hp
      have h3 := HN2.out.push F2.out.size hp
      have F3 := HN2.out.frOf F2.out hp
      clear hp
      go_wp2
      go_roundw
      case rel => exact ⟨2, s3, rfl, by go_num, by omega, F3, h3⟩
      case measure => simp [intOf]
    · have ho := hr
      have HF := Lib.hid fr
      have HO := Lib.hid ho
      have F2 := Lib.hid (fr.alloc (.cells #[.int .u8 (n / 256 % 256)] 5))
      have HO2 := Lib.hid (own_fr ho.own ((Fr.refl [] wr).alloc (.cells #[.int .u8 (n / 256 % 256)] 5)))
      have HN2 := Lib.hid (ho.fr ((Fr.refl [] wr).alloc (.cells #[.int .u8 (n / 256 % 256)] 5)))
      clear ho hr fr
      go_wp2_with (at_builtin; refine wpList_push rfl _ _ 49 rfl 5 i0 (.int .u8 0) 1 1 hun hi0 hz0 hz1 hz2 rfl (by decide) s 2 _ rfl HO2.out _ 1 [.int .u8 (n / 256 % 256)] rfl Src.one rfl (by intro u hu; simp at hu; subst hu; rfl) (by unfold maxLen; omega) (by omega) ?_)
      intro s3 w3 hp
      have h3 := HN2.out.push F2.out.size hp
      have F3 := HN2.out.frOf F2.out hp
      clear hp
      go_wp2
      go_roundw
      case rel => exact ⟨3, s3, rfl, by go_num, by omega, F3, h3⟩
      case measure => simp [intOf]
    · have ho := hr
      have HF := Lib.hid fr
      have HO := Lib.hid ho
      have F2 := Lib.hid (fr.alloc (.cells #[.int .u8 (n % 256)] 5))
      have HO2 := Lib.hid (own_fr ho.own ((Fr.refl [] wr).alloc (.cells #[.int .u8 (n % 256)] 5)))
      have HN2 := Lib.hid (ho.fr ((Fr.refl [] wr).alloc (.cells #[.int .u8 (n % 256)] 5)))
      clear ho hr fr
      go_wp2_with (at_builtin; refine wpList_push rfl _ _ 49 rfl 5 i0 (.int .u8 0) 1 1 hun hi0 hz0 hz1 hz2 rfl (by decide) s 3 _ rfl HO2.out _ 1 [.int .u8 (n % 256)] rfl Src.one rfl (by intro u hu; simp at hu; subst hu; rfl) (by unfold maxLen; omega) (by omega) ?_)
      intro s3 w3 hp
      have h3 := HN2.out.push F2.out.size hp
      have F3 := HN2.out.frOf F2.out hp
      clear hp
      go_wp2
      go_roundw
      case rel => exact ⟨4, s3, rfl, by go_num, by omega, F3, h3⟩
      case measure => simp [intOf]
    · have H := Lib.hid (And.intro hr fr)
      clear hr fr
      go_wp2
      go_ret
      exact ⟨s, rfl, H.out.1, H.out.2⟩

theorem ref6_Number (w : World) (n : Int) (h0 : 0 ≤ n) (h1 : n < 4294967296) :
    Calls Tryz.prog 54 #[.int .i64 n] w fun e w' => ∃ s : Sl, e = .returned (.slice s.A s.n s.c) ∧ (∀ N, Bts N w' s (numB n)) ∧ Fr [] w w' := by
  go_enter Tryz.func54, Tryz.ntmps54
  have d0 : decide (n < 0) = false := by simp; omega
  have d1 : decide (4294967296 ≤ n) = false := by simp; omega
  go_wp2_with fail
  refine (ref1_Put4 w n h0 h1).mono ?_
  rintro e w1 ⟨s, rfl, hr, f⟩
  have hn : s.n = 4 := own_n hr.own
  have H := Lib.hid (And.intro hr f)
  clear hr f
  clear d0 d1
  obtain ⟨A, n', c⟩ := s
  simp only at hn
  subst hn
  go_wp2
  go_ret
  exact ⟨_, rfl, fun N => Bts.own H.out.1.own (numB_wf n h0 h1) N, H.out.2⟩

end Go.Proofs.YtneggoonlmmjeaaGreat
namespace Go.Proofs.YtneggoonlmmjeaaGreat
open Go.RowKit Go.Shelf
set_option linter.unusedVariables false
set_option linter.unusedSimpArgs false
set_option maxRecDepth 100000

theorem askM'_inv (c : CM) (n r v : Int) (b : Bool) (h : c.ok) (hn : 0 ≤ n ∧ n < 4294967296) (hr : 0 ≤ r ∧ r ≤ 1000) (hv : 1 ≤ v ∧ v ≤ 10000) : Inv 1000 0 (askM' c n r v b) :=
  { (newM_inv c 4 8 h).mono (Nat.zero_le 1000) (Nat.le_refl 0) with st := (by show (0 : Int) ≤ 2 ∧ (2 : Int) < 14; omega), own := hn, retries := hr, tm := ⟨by simp [askM'], fun x hx => by simp [askM'] at hx; subst hx; omega⟩ }
theorem upM_inv (c : CM) (n r : Int) (b : Bool) (h : c.ok) (hn : 0 ≤ n ∧ n < 4294967296) (hr : 0 ≤ r ∧ r ≤ 1000) : Inv 1000 0 (upM c n r b) :=
  { (newM_inv c 4 8 h).mono (Nat.zero_le 1000) (Nat.le_refl 0) with st := (by show (0 : Int) ≤ 8 ∧ (8 : Int) < 14; omega), own := hn, retries := hr, epoch := (by show (0 : Int) ≤ 1 ∧ (1 : Int) ≤ (1000 : Nat); omega) }
theorem ask_clear (c : CM) (n : Int) : clearO { askM' c n 0 c.ak true with send := [askD' n], used := true } = askM' c n 0 c.ak true := rfl
theorem up_clear (c : CM) (n r : Int) (l : List Int) : clearO { upM c n r true with say := [6], p := some (uaD l) } = upM c n r true := rfl
theorem CM.ak_ok {c : CM} (h : c.ok) : 1 ≤ c.ak ∧ c.ak ≤ 10000 := by unfold CM.ok tick at h; omega

set_option maxHeartbeats 4000000 in
theorem law19_awake (w : World) : Calls Tryz.prog 19 #[] w fun e w' => e = .returned (.bool true) ∧ Fr [] w w' := by
  go_enter Tryz.func19, Tryz.ntmps19
  go_wp2_with fail
  refine (law19_Made 3 w).mono ?_
  rintro e w1 ⟨rfl, f1⟩
  have HOK := Lib.hid (madeM_ok 3)
  obtain ⟨c, hc⟩ : ∃ c, madeM 3 = c := ⟨_, rfl⟩
  rw [hc] at HOK
  simp only [hc]
  clear hc
  go_wp2_with fail
  refine (law19_Config c w1).mono ?_
  rintro e w2 ⟨rfl, f2⟩
  have hnew := OwnT.newC HOK.out (f1.tr f2)
  clear f1 f2
  go_wp2_with fail
  refine hnew.mono ?_
  rintro e w3 ⟨t, v, rfl, o3⟩
  clear hnew
  have hdo := o3.doC 0 7 0 0 (newM_inv c 4 8 HOK.out) (by omega) (by omega) (by omega) (by omega)
  rw [ask_0] at hdo
  clear o3
  go_wp2_with fail
  refine hdo.mono ?_
  rintro e w4 ⟨x, v4, rfl, ⟨os, oy, ok, ha, hx, -, -, -, hs, -, -⟩, o4, -⟩
  rw [ask_clear] at o4
  have hx : x = .agg #[.slice os.A 1 os.c, .slice oy.A 0 oy.c, .slice ok.A 0 ok.c, .bool true] := hx
  subst hx
  have HS := Lib.hid (And.intro ha hs)
  have H4 := Lib.hid o4
  have HD := Lib.hid (rfl : true = true)
  clear ha hs o4 hdo
  go_wp2_with fail
  obtain ⟨wA, hwA⟩ : ∃ wA, w4.alloc (.cells #[.slice os.A 1 os.c, .slice oy.A 0 oy.c, .slice ok.A 0 ok.c, .bool true] 36) = wA := ⟨_, rfl⟩
  obtain ⟨wB, hwB⟩ : ∃ wB, wA.alloc (.cells #[.int .u8 0, .int .u8 0, .int .u8 0, .int .u8 7] 5) = wB := ⟨_, rfl⟩
  obtain ⟨O, hO⟩ : ∃ O, w4.heap.size = O := ⟨_, rfl⟩
  have bO : Blk wA O #[.slice os.A 1 os.c, .slice oy.A 0 oy.c, .slice ok.A 0 ok.c, .bool true] 36 := by rw [← hwA, ← hO]; exact Blk.new w4 _ _
  have hsz : wA.heap.size = O + 1 := by rw [← hwA, World.size_alloc, hO]
  have bN : Blk wB (O + 1) #[.int .u8 0, .int .u8 0, .int .u8 0, .int .u8 7] 5 := by rw [← hwB, ← hsz]; exact Blk.new wA _ _
  have fA : Fr [] w4 wA := by rw [← hwA]; exact (Fr.refl _ _).alloc _
  have fB : Fr [] wA wB := by rw [← hwB]; exact (Fr.refl _ _).alloc _
  have hb : ∀ N, Bts N wB ⟨some ⟨O + 1, 0, none⟩, 4, 4⟩ [0, 0, 0, 7] := fun N => ⟨Ints.blk (l := [0, 0, 0, 7]) bN (by decide), fun _ b' hb => .inr (by simp [Sl.blk] at hb; subst hb; exact ⟨_, _, bN⟩)⟩
  have oB := H4.out.fr0 (fA.tr fB)
  have hh := oB.hearC (uaD [0, 0, 0, 7]) _ (.int .i64 8) 1000 0 (askM'_inv c 7 0 c.ak true HOK.out (by omega) (by omega) (CM.ak_ok HOK.out)) ⟨typ_ua 0 0 0 7, rfl, rfl⟩ hb (by intro x hx; simp [uaD] at hx; omega) rfl (by omega)
  rw [hear_up c 7 0 c.ak true 0 0 0 7 rfl] at hh
  have hOn : O ∉ v4.foot := fun hm => by have := H4.out.is.lt O hm; omega
  have HB := Lib.hid (And.intro (bO.fr fB (by simp)) (And.intro hOn (fA.tr fB)))
  clear bO bN fA fB hb oB hOn hsz HD
  simp only [hwA, hwB, hO]
  clear hwA hwB
  refine hh.mono ?_
  rintro e w5 ⟨y, v5, rfl, ⟨os', oy', ok', ha', hy, -, -, -, -, hyo, -⟩, o5, f5, n5⟩
  rw [up_clear] at o5
  have hy : y = .agg #[.slice os'.A 0 os'.c, .slice oy'.A 1 oy'.c, .slice ok'.A 0 ok'.c, .bool false] := hy
  subst hy
  have bO5 := HB.out.1.fr f5 HB.out.2.1
  obtain ⟨b, hA, s2, s3, s4, s5, s6, s7⟩ := OutV.send (m := { askM' c 7 0 c.ak true with send := [askD' 7], used := true }) (k := 0) HS.out.1 (HS.out.2.fr HB.out.2.2) rfl f5
  obtain ⟨oA, on, oc⟩ := os
  simp only at hA
  subst hA
  obtain ⟨d, hyA, hyc⟩ := own_at (n := 1) hyo (by decide)
  obtain ⟨yA, yn, yc⟩ := oy'
  simp only at hyA
  subst hyA
  have y0 := hyc 0 (.int .i64 6) rfl
  have c0 := bO5.cell 0 rfl
  have c3 := bO5.cell 3 rfl
  simp only [List.getElem_toArray, List.getElem_cons_zero, List.getElem_cons_succ] at c0 c3
  have fz := (Fr.refl [] w5).alloc (.cells #[.slice os'.A 0 os'.c, .slice (some ⟨d, 0, none⟩) 1 yc, .slice ok'.A 0 ok'.c, .bool false] 36)
  have o6 := o5.fr0 fz
  have hst := o6.stateC
  have hep := o6.epochC
  have HF := Lib.hid o6.fr
  have e1 : (upM c 7 0 true).state = 8 := rfl
  have e2 : (upM c 7 0 true).epoch = 1 := rfl
  rw [e1] at hst
  rw [e2] at hep
  have HST := Lib.hid hst
  have HEP := Lib.hid hep
  clear hst hep e1 e2 o6 o5 f5 n5 hyo hyc ha' hh bO5
  simp only [askD', Nat.zero_mul, Nat.zero_add] at s4
  have g0 := fz.cell c0 (by simp)
  have g3 := fz.cell c3 (by simp)
  have g4 := fz.cell s4 (by simp)
  have gy := fz.cell y0 (by simp)
  clear c0 c3 s2 s3 s4 s5 s6 s7 y0 fz
  go_wp2_with fail
  refine HST.out.mono ?_
  rintro e w6 ⟨rfl, rfl⟩
  go_wp2_with fail
  refine HEP.out.mono ?_
  rintro e w6 ⟨rfl, rfl⟩
  go_wp2
  go_ret
  exact ⟨rfl, HF.out⟩
end Go.Proofs.YtneggoonlmmjeaaGreat
namespace Go.Proofs.YtneggoonlmmjeaaGreat
open Go.RowKit Go.Shelf
set_option linter.unusedVariables false
set_option linter.unusedSimpArgs false
set_option maxRecDepth 100000

theorem r_8_2 : rowsM 8 2 = ⟨[12, 1, 33, 13], 6, true⟩ := by kernel_rfl
theorem r_8_3 : rowsM 8 3 = ⟨[12, 0, 33, 13], 3, true⟩ := by kernel_rfl
/-- It asks again, connected as it is. -/
def reM (c : CM) (n s : Int) : TM := { newM c 4 8 with state := s, own := n, epoch := 1, poll := true, tm := [(29, c.ak)] }
def endD (n : Int) : PD := ⟨8, 4, false, 2, 4, 0, 0, true, numB n⟩
theorem re_3 (c : CM) (n : Int) : doM (upM c n 0 true) 3 n = { reM c n 3 with send := [askD' n], used := true } := by
  have e : (upM c n 0 true).state.toNat = 8 := rfl
  unfold doM doB
  rw [e, r_8_3]
  rfl
theorem re_2 (c : CM) (n : Int) : doM (upM c n 0 true) 2 n = { reM c n 6 with send := [endD n], used := true } := by
  have e : (upM c n 0 true).state.toNat = 8 := rfl
  unfold doM doB
  rw [e, r_8_2]
  rfl
theorem reM_inv (c : CM) (n s : Int) (h : c.ok) (hn : 0 ≤ n ∧ n < 4294967296) (hs : 0 ≤ s ∧ s < 14) : Inv 1000 0 (reM c n s) :=
  { (newM_inv c 4 8 h).mono (Nat.zero_le 1000) (Nat.le_refl 0) with st := hs, own := hn, epoch := (by show (0 : Int) ≤ 1 ∧ (1 : Int) ≤ (1000 : Nat); omega), tm := ⟨by simp [reM], fun x hx => by have := CM.ak_ok h; simp [reM] at hx; subst hx; dsimp only; omega⟩ }
/-- Who waits. -/
structure Waits (M : TM) (n : Int) (s k : Int) : Prop where
  inv : Inv 1000 0 M
  near : M.near = 4
  there : M.there = 8
  st : M.state = s
  sts : s = 2 ∨ s = 3 ∨ s = 6
  own : M.own = n
  tm : (M.tm.length : Int) = k
theorem waits_ask (c : CM) (n : Int) (h : c.ok) (hn : 0 ≤ n ∧ n < 4294967296) : Waits (askM' c n 0 c.ak true) n 2 1 := ⟨askM'_inv c n 0 c.ak true h hn (by omega) (CM.ak_ok h), rfl, rfl, rfl, .inl rfl, rfl, rfl⟩
theorem waits_re (c : CM) (n s : Int) (h : c.ok) (hn : 0 ≤ n ∧ n < 4294967296) (hs : s = 2 ∨ s = 3 ∨ s = 6) : Waits (reM c n s) n s 1 := ⟨reM_inv c n s h hn (by omega), rfl, rfl, rfl, hs, rfl, rfl⟩
theorem numG_numB (n : Int) (h0 : 0 ≤ n) (h1 : n < 4294967296) : numG (numB n) = n := by
  show (((0 * 256 + n / 16777216) * 256 + n / 65536 % 256) * 256 + n / 256 % 256) * 256 + n % 256 = n
  omega
/-- An elder answer. -/
def oldD (b : Bool) (x : Int) : PD := bif b then dmD (numB x) else uaD (numB x)
theorem oldD_info (b : Bool) (x : Int) : (oldD b x).info = numB x := by cases b <;> rfl
theorem oldD_ok (M : TM) (n s k : Int) (h : Waits M n s k) (b : Bool) (x : Int) : hearOk M (oldD b x) := by
  cases b
  · exact ⟨rfl, h.there.symm, h.near.symm⟩
  · exact ⟨rfl, h.there.symm, h.near.symm⟩
theorem oldD_E (M : TM) (b : Bool) (x : Int) : hearE M (oldD b x) = bif b then 11 else 10 := by cases b <;> rfl
theorem oldD_fr (M : TM) (n s k : Int) (h : Waits M n s k) (b : Bool) (x : Int) : rowFr M.state.toNat (hearE M (oldD b x)).toNat = false := by
  rw [oldD_E, h.st]
  rcases h.sts with e | e | e <;> rw [e] <;> cases b <;> rfl
theorem oldD_hear (M : TM) (n s k : Int) (h : Waits M n s k) (b : Bool) (x : Int) (h0 : 0 ≤ x) (h1 : x < 4294967296) (hx : x ≠ n) : hearM M (oldD b x) = beginM M (some (oldD b x)) true 0 := by
  have e1 := oldD_E M b x
  have e2 : hearN M (oldD b x) = x := by
    unfold hearN
    rw [e1, oldD_info, numG_numB x h0 h1]
    cases b <;> rfl
  have e3 : hearB M (oldD b x) = beginM M (some (oldD b x)) true 0 := by
    unfold hearB
    rw [e1]
    cases b <;> rfl
  have e4 : hearR M (oldD b x) = (true, beginM M (some (oldD b x)) true 0) := by
    unfold hearR numberedM
    rw [e1, e2, e3]
    have ho : (beginM M (some (oldD b x)) true 0).own = n := h.own
    have hs : (beginM M (some (oldD b x)) true 0).state = s := h.st
    rw [ho, hs]
    cases b
    · show (if (10 : Int) = 8 then _ else if (10 : Int) = 10 then (decide (x ≠ n), _) else _) = _
      rw [if_neg (by decide), if_pos rfl, decide_eq_true hx]
    · show (if (11 : Int) = 8 then _ else if (11 : Int) = 10 then _ else if (11 : Int) = 11 then (decide ((s = 2 ∨ s = 3 ∨ s = 6) ∧ x ≠ n), _) else _) = _
      rw [if_neg (by decide), if_neg (by decide), if_pos rfl, decide_eq_true ⟨h.sts, hx⟩]
  unfold hearM
  rw [e4, if_pos rfl]
theorem old_state (M : TM) (n s k : Int) (h : Waits M n s k) (p : Option PD) : (clearO (beginM M p true 0)).state = s ∧ (clearO (beginM M p true 0)).own = n ∧ ((clearO (beginM M p true 0)).tm.length : Int) = k := ⟨h.st, h.own, h.tm⟩
end Go.Proofs.YtneggoonlmmjeaaGreat
namespace Go.Proofs.YtneggoonlmmjeaaGreat
open Go.RowKit Go.Shelf
set_option linter.unusedVariables false
set_option linter.unusedSimpArgs false
set_option maxRecDepth 100000

/-- A call hands out, with no fault. -/
def GivesE (w0 w1 : World) (t : Nat) (v : TV) (m : TM) (r : Ending) (w' : World) : Prop := ∃ x v', r = .returned (.tuple #[x, .int .i64 0]) ∧ OutV w' m v'.foot x ∧ OwnT w0 w' t v' (clearO m) ∧ Fr v.foot w1 w' ∧ ∀ x ∈ v'.foot, x ∈ v.foot ∨ w1.heap.size ≤ x
/-- Refused by so much. -/
def Refused (w : World) (k : Int) (e : Ending) (w' : World) : Prop := e = .returned (.tuple #[.agg #[.slice none 0 0, .slice none 0 0, .slice none 0 0, .bool false], .int .i64 k]) ∧ Fr [] w w'
theorem OwnT.sendC {w0 w1 : World} {t : Nat} {v : TV} {m : TM} (h : OwnT w0 w1 t v m) (s : Sl) (x : List Int) (j k : Nat) (hi : Inv j k m) (hx : Ints .u8 w1 s.v x) (hst : 8 ≤ m.state) (hl : x.length ≤ 1024) (hq : m.q.length < 64) (hj : j + 20 ≤ 1000000) :
    Calls Tryz.prog 21 #[.pointer (some ⟨t, 0, none⟩), .slice s.A s.n s.c] w1 (GivesE w0 w1 t v (sentM m x)) := by
  have c := tie_Send w1 v m s x j k h.is hi hx hst hl hq hj
  rw [h.t] at c
  exact c.mono fun _ _ ⟨x, v', e, ho, k, T⟩ => ⟨x, v', e, ho, h.step T k, T.fr, T.new⟩
theorem OwnT.sendC9 {w0 w1 : World} {t : Nat} {v : TV} {m : TM} (h : OwnT w0 w1 t v m) (s : Sl) (x : List Int) (hx : Ints .u8 w1 s.v x) (hst : m.state < 8) :
    Calls Tryz.prog 21 #[.pointer (some ⟨t, 0, none⟩), .slice s.A s.n s.c] w1 (Refused w1 9) := by
  have c := send_state w1 v m s x h.is hx hst
  rw [h.t] at c
  exact c
theorem OwnT.sendC3 {w0 w1 : World} {t : Nat} {v : TV} {m : TM} (h : OwnT w0 w1 t v m) (s : Sl) (x : List Int) (hx : Ints .u8 w1 s.v x) (hst : 8 ≤ m.state) (hl : 1024 < x.length) :
    Calls Tryz.prog 21 #[.pointer (some ⟨t, 0, none⟩), .slice s.A s.n s.c] w1 (Refused w1 3) := by
  have c := send_long w1 v m s x h.is hx hst hl
  rw [h.t] at c
  exact c
theorem OwnT.sendC6 {w0 w1 : World} {t : Nat} {v : TV} {m : TM} (h : OwnT w0 w1 t v m) (s : Sl) (x : List Int) (hx : Ints .u8 w1 s.v x) (hst : 8 ≤ m.state) (hl : x.length ≤ 1024) (hf : 64 ≤ m.q.length) :
    Calls Tryz.prog 21 #[.pointer (some ⟨t, 0, none⟩), .slice s.A s.n s.c] w1 (Refused w1 6) := by
  have c := send_full w1 v m s x h.is hx hst hl hf
  rw [h.t] at c
  exact c
theorem OwnT.queueC {w0 w1 : World} {t : Nat} {v : TV} {m : TM} (h : OwnT w0 w1 t v m) :
    Calls Tryz.prog 23 #[.pointer (some ⟨t, 0, none⟩)] w1 fun e w' => e = .returned (.tuple #[.int .i64 m.q.length, .int .i64 m.out]) ∧ Fr [] w1 w' := by
  have c := tie_Queue w1 v m h.is
  rw [h.t] at c
  exact c
/-- A block that lies apart. -/
structure Aside (w : World) (v : TV) (P : Nat) (cs : Array Value) (ty : TypeId) : Prop where
  blk : Blk w P cs ty
  off : P ∉ v.foot
theorem Aside.fr0 {w w' : World} {v : TV} {P : Nat} {cs : Array Value} {ty : TypeId} (h : Aside w v P cs ty) (f : Fr [] w w') : Aside w' v P cs ty := ⟨h.blk.fr f (by simp), h.off⟩
theorem Aside.step {w w' : World} {v v' : TV} {P : Nat} {cs : Array Value} {ty : TypeId} (h : Aside w v P cs ty) (f : Fr v.foot w w') (n : ∀ x ∈ v'.foot, x ∈ v.foot ∨ w.heap.size ≤ x) : Aside w' v' P cs ty :=
  ⟨h.blk.fr f h.off, fun hm => by
    rcases n P hm with h1 | h1
    · exact h.off h1
    · have := h.blk.lt; omega⟩
theorem Aside.new {w0 w : World} {t : Nat} {v : TV} {m : TM} (h : OwnT w0 w t v m) (cs : Array Value) (ty : TypeId) : Aside (w.alloc (.cells cs ty)) v w.heap.size cs ty :=
  ⟨Blk.new w cs ty, fun hm => Nat.lt_irrefl _ (h.is.lt _ hm)⟩

theorem r_8_5 : rowsM 8 5 = ⟨[31], 8, true⟩ := by kernel_rfl
/-- Connected, so much waits, so many are out. -/
def queM (c : CM) (n : Int) (b : Bool) (l : List (List Int)) (o : Nat) : TM := { upM c n 0 b with q := l, out := o, vs := (o : Int), tm := if o = 0 then [] else [(29, c.ak)] }
theorem up_que (c : CM) (n : Int) (b : Bool) : upM c n 0 b = queM c n b [] 0 := rfl
def iD (o : Nat) (x : List Int) : PD := ⟨8, 4, false, 0, 0, o, 0, false, x⟩
theorem que_begin (c : CM) (n : Int) (b : Bool) (l : List (List Int)) (o : Nat) (x : List Int) : sendB (queM c n b l o) x = queM c n false (l ++ [x]) o := rfl
theorem que_push1 (c : CM) (n : Int) (L : List (List Int)) (o : Nat) (h : L.length = o + 1) (ho : (o : Int) < c.wd) (hw : c.wd ≤ 64) (ha : c.ak ≠ 0) : pushM (queM c n false L o) = { queM c n false L (o + 1) with send := [iD o (L.getD o [])] } := by
  have e1 : (queM c n false L o).q.length - (queM c n false L o).out = 1 := by show L.length - o = 1; omega
  have e2 : mayPush (queM c n false L o) := by
    refine ⟨rfl, ?_, ?_⟩
    · show ((o : Int) - 0) % 128 < c.wd; omega
    · show o < L.length; omega
  have e3 : pushL 1 (queM c n false L o) = pushS (queM c n false L o) := by rw [pushL, if_pos e2]; rfl
  have e4 : ((o : Int) + 1) % 128 = ((o + 1 : Nat) : Int) := by push_cast; omega
  unfold pushM
  rw [e1, e3]
  dsimp only
  have ev : (pushS (queM c n false L o)).vs = ((o + 1 : Nat) : Int) := e4
  have ea : (pushS (queM c n false L o)).va = 0 := rfl
  rw [ev, ea]
  by_cases h0 : o = 0
  · subst h0
    have et : (pushS (queM c n false L 0)).tm = [] := rfl
    rw [et, if_pos ⟨by simp, rfl⟩]
    rfl
  · have et : (pushS (queM c n false L o)).tm = [(29, c.ak)] := by show (if o = 0 then _ else _) = _; rw [if_neg h0]
    rw [et, if_neg (fun hh => ha hh.2)]
    unfold pushS sendM queM
    rw [if_neg h0, if_neg (Nat.succ_ne_zero o)]
    show TM.mk .. = TM.mk ..
    congr 1
theorem que_push0 (c : CM) (n : Int) (L : List (List Int)) (o : Nat) (h0 : 0 < o) (ho : (o : Int) = c.wd) (hw : c.wd ≤ 64) (ha : c.ak ≠ 0) : pushM (queM c n false L o) = queM c n false L o := by
  have e2 : ¬ mayPush (queM c n false L o) := fun ⟨_, hh, _⟩ => by
    have hh : ((o : Int) - 0) % 128 < c.wd := hh
    omega
  have e3 : ∀ k, pushL k (queM c n false L o) = queM c n false L o := fun k => by
    cases k with
    | zero => rfl
    | succ k => rw [pushL, if_neg e2]
  have et : (queM c n false L o).tm = [(29, c.ak)] := by show (if o = 0 then _ else _) = _; rw [if_neg (by omega)]
  unfold pushM
  rw [e3]
  dsimp only
  rw [et, if_neg (fun hh => ha hh.2)]
theorem que_sent (c : CM) (n : Int) (b : Bool) (l : List (List Int)) (o : Nat) (x : List Int) (R : TM) (h : pushM (queM c n false (l ++ [x]) o) = R) (hs : R.state = 8) : sentM (queM c n b l o) x = R := by
  unfold sentM
  rw [que_begin]
  show evM (rowsM 8 5) _ = R
  rw [r_8_5]
  show { pushM (queM c n false (l ++ [x]) o) with state := 8 } = R
  rw [h, ← hs]
theorem que_sent1 (c : CM) (h : c.ok) (n : Int) (b : Bool) (l : List (List Int)) (x : List Int) (ho : (l.length : Int) < c.wd) : sentM (queM c n b l l.length) x = { queM c n false (l ++ [x]) (l.length + 1) with send := [iD l.length x] } := by
  refine que_sent c n b l l.length x _ ((que_push1 c n (l ++ [x]) l.length (by simp) ho (by unfold CM.ok at h; omega) (by have := CM.ak_ok h; omega)).trans ?_) rfl
  simp
theorem que_sent0 (c : CM) (h : c.ok) (n : Int) (b : Bool) (l : List (List Int)) (o : Nat) (x : List Int) (ho : (o : Int) = c.wd) : sentM (queM c n b l o) x = queM c n false (l ++ [x]) o :=
  que_sent c n b l o x _ (que_push0 c n (l ++ [x]) o (by unfold CM.ok at h; omega) ho (by unfold CM.ok at h; omega) (by have := CM.ak_ok h; omega)) rfl
theorem queM_inv (c : CM) (n : Int) (b : Bool) (l : List (List Int)) (o : Nat) (h : c.ok) (hn : 0 ≤ n ∧ n < 4294967296) (hl : l.length ≤ 64) (ho : o ≤ l.length) (hw : (o : Int) ≤ c.wd) (hx : ∀ x ∈ l, x.length ≤ 1024) : Inv 1000 0 (queM c n b l o) := by
  have hu := upM_inv c n 0 b h hn (by omega)
  have hk := CM.ak_ok h
  refine { hu with vs := ?_, dist := ?_, out := ?_, q := ?_, sdu := ?_, tm := ?_ }
  · show (0 : Int) ≤ (o : Int) ∧ (o : Int) < 128; omega
  · show (o : Int) = ((o : Int) - 0) % 128; omega
  · exact ho
  · exact hl
  · exact hx
  · show TmOk (if o = 0 then [] else [(29, c.ak)])
    by_cases h0 : o = 0
    · rw [if_pos h0]; exact TmOk.nil
    · rw [if_neg h0]; exact ⟨by simp, fun x hx => by simp at hx; subst hx; dsimp only; omega⟩
theorem known_hear (c : CM) (h : c.ok) : hearM (askM' c 7 0 c.ak true) (uaD [0, 0, 0, 6]) = { askM' c 7 0 c.ak true with p := some (uaD [0, 0, 0, 6]) } :=
  (oldD_hear (askM' c 7 0 c.ak true) 7 2 1 (waits_ask c 7 h (by omega)) false 6 (by omega) (by omega) (by omega)).trans rfl
theorem bts_new (w : World) (l : List Int) (a : Array Value) (n : Nat) (ha : a = (l.map (Value.int .u8)).toArray) (hl : n = l.length) (h : ∀ x ∈ l, (Lit.int .u8 x).wf = true) (N : Nat) : Bts N (w.alloc (.cells a 5)) ⟨some ⟨w.heap.size, 0, none⟩, n, n⟩ l := by
  subst ha hl
  have hb := Blk.new w (l.map (Value.int .u8)).toArray 5
  exact ⟨Ints.blk hb h, fun _ b' hb' => .inr (by simp [Sl.blk] at hb'; subst hb'; exact ⟨_, _, hb⟩)⟩
end Go.Proofs.YtneggoonlmmjeaaGreat
namespace Go.Proofs.YtneggoonlmmjeaaGreat
open Go.RowKit Go.Shelf
set_option linter.unusedVariables false
set_option linter.unusedSimpArgs false
set_option maxRecDepth 100000

open Go.ChangeMaps Go.ChangeShapes Go.WideShapes Go.ChangeAt in
/-- A slice argument that may be nil. -/
theorem Ints.open_ {H : Type} {enc : TypeId × Value → H} {P : Program} {w : World} {base : Nat} {spare : Nat → Bool} {held : Bool} {t e : TypeId} {k : IntKind} {A : Option Addr} {len cap : Nat} {d : DataW H} {p : List MemPlace}
    (ht : P.underlying t = some (.slice e)) (he : P.underlying e = some (.int k)) (hc : P.cellsOf e = 1) (h : DataW.Trod enc P w base spare held t (.slice A len cap) d p) :
    ∃ l : List Int, l.length = len ∧ len ≤ 9223372036854775807 ∧ Ints k w (.slice A len cap) l := by
  obtain ⟨fuel, hf⟩ := h
  rcases open_ints ht he hc hf with ⟨hcs, _⟩ | ⟨x, l, c, zs, hcs, _, hl, hm, hz, _, hcell, hwz⟩
  · simp [Value.cells] at hcs
    obtain ⟨rfl, rfl, rfl⟩ := hcs
    exact ⟨[], rfl, by omega, .inl ⟨rfl, rfl⟩⟩
  · simp [Value.cells] at hcs
    obtain ⟨rfl, rfl, rfl⟩ := hcs
    unfold maxLen at hm
    have hle : len ≤ zs.length := by rw [hz]; split <;> omega
    have hlen : (zs.take len).length = len := by simp; omega
    exact ⟨zs.take len, hlen, by omega, .inr ⟨_, _, by rw [hlen], ArgInts.of len hle hcell hwz⟩⟩
theorem r_ua1 (c : CM) (n : Int) : clearO { upM c n 0 true with say := [6], p := some (uaD [0, 0, 0, 1]) } = upM c n 0 true := rfl
/-- So much is out. -/
def outN (c : CM) (k : Nat) : Nat := min k c.wd.toNat
theorem que_step (c : CM) (h : c.ok) (n : Int) (b : Bool) (l : List (List Int)) (x : List Int) : clearO (sentM (queM c n b l (outN c l.length)) x) = queM c n false (l ++ [x]) (outN c (l ++ [x]).length) := by
  have hw : 1 ≤ c.wd ∧ c.wd ≤ 64 := by unfold CM.ok at h; omega
  rw [List.length_append, List.length_singleton]
  by_cases hk : (l.length : Int) < c.wd
  · rw [show outN c l.length = l.length by unfold outN; omega, show outN c (l.length + 1) = l.length + 1 by unfold outN; omega, que_sent1 c h n b l x hk]
    rfl
  · have e1 : ((outN c l.length : Nat) : Int) = c.wd := by unfold outN; omega
    rw [show outN c (l.length + 1) = outN c l.length by unfold outN; omega, que_sent0 c h n b l _ x e1]
    rfl
theorem que_inv (c : CM) (h : c.ok) (n : Int) (hn : 0 ≤ n ∧ n < 4294967296) (b : Bool) (l : List (List Int)) (hl : l.length ≤ 64) (hx : ∀ x ∈ l, x.length ≤ 1024) : Inv 1000 0 (queM c n b l (outN c l.length)) := by
  have hw : 1 ≤ c.wd ∧ c.wd ≤ 64 := by unfold CM.ok at h; omega
  exact queM_inv c n b l _ h hn hl (by unfold outN; omega) (by unfold outN; omega) hx
theorem fldW (c : CM) (w : World) : (Instr.field 24 c.val 0).run Tryz.prog w = .ok (.int .i64 c.wd) w := by kernel_rfl
attribute [local go_sem] fldW
set_option maxHeartbeats 8000000 in
theorem walk_TieQueue (w : World) (n : Int) (hn : (Lit.int .i64 n).wf = true) (s : Sl) (more : List Int) (hm : more.length ≤ 9223372036854775807) (hmore : Ints .u8 w s.v more) :
    Calls Tryz.prog 6 #[.int .i64 n, .slice s.A s.n s.c] w fun e w' => e = .returned (.bool true) ∧ Fr [] w w' := by
  have hsn : s.n = more.length := hmore.n'
  obtain ⟨sA, sn, sc⟩ := s
  simp only at hsn
  have HM := Lib.hid (And.intro hmore hsn)
  clear hm hmore hsn
  dsimp only
  go_enter Tryz.func6, Tryz.ntmps6
  go_wp2_with fail
  refine (law19_awake w).mono ?_
  rintro e w1 ⟨rfl, f1⟩
  have F1 := Lib.hid f1
  clear f1
  by_cases hbig : (1100 : Int) < sn
  · have d1 : decide ((1100 : Int) < sn) = true := by simpa using hbig
    clear hbig
    go_wp2
    go_ret
    exact ⟨rfl, F1.out⟩
  have d1 : decide ((1100 : Int) < sn) = false := by simpa using hbig
  have HBIG := Lib.hid hbig
  clear hbig
  go_wp2_with fail
  refine (law19_Made n w1).mono ?_
  rintro e w2 ⟨rfl, f2⟩
  have HOK := Lib.hid (madeM_ok n)
  obtain ⟨c, hc⟩ : ∃ c, madeM n = c := ⟨_, rfl⟩
  have HC := Lib.hid hc
  rw [hc] at HOK
  simp only [hc]
  clear hc d1
  go_wp2_with fail
  refine (law19_Config c w2).mono ?_
  rintro e w3 ⟨rfl, f3⟩
  have hnew := OwnT.newC HOK.out (F1.out.tr (f2.tr f3))
  clear f2 f3
  go_wp2_with fail
  refine hnew.mono ?_
  rintro e w8 ⟨t, v, rfl, o8⟩
  clear hnew
  have b8 := bts_new w8 [1] #[.int .u8 1] 1 rfl rfl (by decide) 0
  have f8 := (Fr.refl [] w8).alloc (.cells #[.int .u8 1] 5)
  have hs := (o8.fr0 f8).sendC9 _ [1] b8.1 (by show (0 : Int) < 8; omega)
  have H8 := Lib.hid (o8.fr0 f8)
  clear o8 b8 f8
  go_wp2_with fail
  refine hs.mono ?_
  rintro e w9 ⟨rfl, f9⟩
  have o10 := (H8.out.fr0 f9).fr0 ((Fr.refl [] w9).alloc (.cells #[.slice none 0 0, .slice none 0 0, .slice none 0 0, .bool false] 36))
  clear hs f9
  have hdo := o10.doC 0 1 0 0 (newM_inv c 4 8 HOK.out) (by omega) (by omega) (by omega) (by omega)
  rw [ask_0] at hdo
  clear o10
  go_wp2_with fail
  refine hdo.mono ?_
  rintro e w11 ⟨x11, v11, rfl, -, o11, -⟩
  rw [ask_clear] at o11
  clear hdo
  have b8 := bts_new w11 [1] #[.int .u8 1] 1 rfl rfl (by decide) 0
  have f8 := (Fr.refl [] w11).alloc (.cells #[.int .u8 1] 5)
  have hs := (o11.fr0 f8).sendC9 _ [1] b8.1 (by show (2 : Int) < 8; omega)
  have H11 := Lib.hid (o11.fr0 f8)
  clear o11 b8 f8
  go_wp2_with fail
  refine hs.mono ?_
  rintro e w12 ⟨rfl, f12⟩
  have o13 := (H11.out.fr0 f12).fr0 ((Fr.refl [] w12).alloc (.cells #[.slice none 0 0, .slice none 0 0, .slice none 0 0, .bool false] 36))
  clear hs f12
  have b14 := bts_new (w12.alloc (.cells #[.slice none 0 0, .slice none 0 0, .slice none 0 0, .bool false] 36)) [0, 0, 0, 1] #[.int .u8 0, .int .u8 0, .int .u8 0, .int .u8 1] 4 rfl rfl (by decide)
  have f14 := (Fr.refl [] (w12.alloc (.cells #[.slice none 0 0, .slice none 0 0, .slice none 0 0, .bool false] 36))).alloc (.cells #[.int .u8 0, .int .u8 0, .int .u8 0, .int .u8 1] 5)
  have hh := (o13.fr0 f14).hearC (uaD [0, 0, 0, 1]) _ (.int .i64 2) 1000 0 (askM'_inv c 1 0 c.ak true HOK.out (by omega) (by omega) (CM.ak_ok HOK.out)) ⟨rfl, rfl, rfl⟩ b14 (by intro x hx; simp [uaD] at hx; omega) rfl (by omega)
  rw [hear_up c 1 0 c.ak true 0 0 0 1 rfl] at hh
  try simp only [World.size_alloc] at hh
  clear b14 f14 o13
  go_wp2_with fail
  refine hh.mono ?_
  rintro e w15 ⟨x15, v15, rfl, -, o15, -⟩
  rw [r_ua1] at o15
  have H15 := Lib.hid o15
  clear hh o15
  go_wp2
  go_loopw [11] (fun i wr => ∃ b l v', i = .int .i64 (l.length : Int) ∧ l.length ≤ 64 ∧ (∀ x ∈ l, x.length ≤ 1024) ∧ OwnT w wr t v' (queM c 1 b l (outN c l.length))) (fun i _ => (64 - intOf i).toNat)
  case atStart => exact ⟨true, [], v15, rfl, by simp, by simp, H15.out⟩
  case round =>
    obtain ⟨b, l, v', rfl, hl, hx, o'⟩ := hrel
    have HI := Lib.hid (que_inv c HOK.out 1 (by omega) b l hl hx)
    have HX := Lib.hid (And.intro hl hx)
    by_cases hk : l.length < 64
    · have d1 : decide ((l.length : Int) < 64) = true := by simp; omega
      have hb1 : IntKind.u8.wrap (l.length : Int) = l.length := by unfold IntKind.wrap; simp [IntKind.bits, IntKind.signed]; omega
      have hwX : IntKind.i64.wrap ((l.length : Int) + 1) = (l.length : Int) + 1 := IntWalk.i64_in _ (by omega)
      have b8 := bts_new wr [(l.length : Int)] #[.int .u8 (l.length : Int)] 1 rfl rfl (by intro x hx; simp at hx; subst hx; exact u8_wf (by omega) (by omega)) 0
      have f8 := (Fr.refl [] wr).alloc (.cells #[.int .u8 (l.length : Int)] 5)
      have hs := (o'.fr0 f8).sendC _ [(l.length : Int)] 1000 0 HI.out b8.1 (by show (8 : Int) ≤ 8; omega) (by simp) (by show l.length < 64; exact hk) (by omega)
      have HK := Lib.hid hk
      clear b8 f8 o' hk hl hx
      go_wp2_with fail
      refine hs.mono ?_
      rintro e w16 ⟨x16, v16, rfl, ⟨ps, py, pk, -, hx, -⟩, o16, -⟩
      subst hx
      rw [que_step c HOK.out 1 b l] at o16
      have H16 := Lib.hid o16
      clear hs o16
      go_wp2
      go_roundw
      case rel =>
        refine ⟨false, l ++ [[(l.length : Int)]], v16, by simp, by simp; have := HK.out; omega, ?_, ?_⟩
        · intro x hx
          rcases List.mem_append.1 hx with h | h
          · exact HX.out.2 x h
          · simp at h; subst h; simp
        · exact H16.out.fr0 ((Fr.refl [] w16).alloc _)
      case measure => simp [intOf]; have := HK.out; omega
    · have hk64 : l.length = 64 := by omega
      have d1 : decide ((l.length : Int) < 64) = false := by simp; omega
      have hq : ∀ (wx : World), OwnT w wx t v' (queM c 1 b l (outN c l.length)) → Calls Tryz.prog 23 #[.pointer (some ⟨t, 0, none⟩)] wx fun e w' => e = .returned (.tuple #[.int .i64 64, .int .i64 c.wd]) ∧ Fr [] wx w' := fun wx ox => by
        have h := ox.queueC
        have e1 : (((queM c 1 b l (outN c l.length)).q.length : Nat) : Int) = 64 := by show ((l.length : Nat) : Int) = 64; omega
        have e2 : (((queM c 1 b l (outN c l.length)).out : Nat) : Int) = c.wd := by
          show ((outN c l.length : Nat) : Int) = c.wd
          have hw : 1 ≤ c.wd ∧ c.wd ≤ 64 := by have := HOK.out; unfold CM.ok at this; omega
          unfold outN; omega
        rw [e1, e2] at h
        exact h
      have HQ := Lib.hid hq
      have hq1 := hq _ o'
      have o17 := Lib.hid o'
      clear hq o'
      go_wp2_with fail
      refine hq1.mono ?_
      rintro e w18 ⟨rfl, fq⟩
      have hmo := HM.out.1.fr (o17.out.fr.tr fq)
      have o18 := o17.out
      clear hq1 d1
      have hml := HM.out.2
      have hbg := HBIG.out
      rcases (show (1024 : Int) < sn ∨ ¬ (1024 : Int) < sn by omega) with hlong | hlong
      · have d2 : decide ((1024 : Int) < sn) = true := by simp; omega
        have hs := (o18.fr0 fq).sendC3 ⟨sA, sn, sc⟩ more hmo (by show (8 : Int) ≤ 8; omega) (by omega)
        have HLG := Lib.hid (And.intro hlong (And.intro hml hbg))
        clear hlong hml hbg hmo
        go_wp2_with fail
        refine hs.mono ?_
        rintro e w19 ⟨rfl, f19⟩
        have A19 := Blk.new w19 #[.slice none 0 0, .slice none 0 0, .slice none 0 0, .bool false] 36
        have f20 := (Fr.refl [] w19).alloc (.cells #[.slice none 0 0, .slice none 0 0, .slice none 0 0, .bool false] 36)
        have hq2 := HQ.out _ ((o18.fr0 fq).fr0 f19 |>.fr0 f20)
        have H20 := Lib.hid (And.intro A19 ((o18.fr0 fq).fr0 f19 |>.fr0 f20).fr)
        clear hs f19 f20 A19 o18 fq
        go_wp2_with fail
        refine hq2.mono ?_
        rintro e w21 ⟨rfl, f21⟩
        have bz := H20.out.1.fr f21 (by simp)
        have c0 := bz.cell 0 rfl
        simp only [List.getElem_toArray, List.getElem_cons_zero] at c0
        have HF := Lib.hid (H20.out.2.tr f21)
        clear bz f21 hq2
        have ew : (c.wd == c.wd) = true := beq_self_eq_true _
        go_wp2_with fail
        refine (law19_Made n w21).mono ?_
        rintro e w22 ⟨rfl, f22⟩
        rw [HC.out]
        go_wp2
        go_ret
        exact ⟨rfl, HF.out.tr f22⟩
      · have d2 : decide ((1024 : Int) < sn) = false := by simp; omega
        have hs := (o18.fr0 fq).sendC6 ⟨sA, sn, sc⟩ more hmo (by show (8 : Int) ≤ 8; omega) (by omega) (by show 64 ≤ l.length; omega)
        have HLG := Lib.hid (And.intro hlong (And.intro hml hbg))
        clear hlong hml hbg hmo
        go_wp2_with fail
        refine hs.mono ?_
        rintro e w19 ⟨rfl, f19⟩
        have A19 := Blk.new w19 #[.slice none 0 0, .slice none 0 0, .slice none 0 0, .bool false] 36
        have f20 := (Fr.refl [] w19).alloc (.cells #[.slice none 0 0, .slice none 0 0, .slice none 0 0, .bool false] 36)
        have hq2 := HQ.out _ ((o18.fr0 fq).fr0 f19 |>.fr0 f20)
        have H20 := Lib.hid (And.intro A19 ((o18.fr0 fq).fr0 f19 |>.fr0 f20).fr)
        clear hs f19 f20 A19 o18 fq
        go_wp2_with fail
        refine hq2.mono ?_
        rintro e w21 ⟨rfl, f21⟩
        have bz := H20.out.1.fr f21 (by simp)
        have c0 := bz.cell 0 rfl
        simp only [List.getElem_toArray, List.getElem_cons_zero] at c0
        have HF := Lib.hid (H20.out.2.tr f21)
        clear bz f21 hq2
        have ew : (c.wd == c.wd) = true := beq_self_eq_true _
        go_wp2_with fail
        refine (law19_Made n w21).mono ?_
        rintro e w22 ⟨rfl, f22⟩
        rw [HC.out]
        go_wp2
        go_ret
        exact ⟨rfl, HF.out.tr f22⟩
end Go.Proofs.YtneggoonlmmjeaaGreat
