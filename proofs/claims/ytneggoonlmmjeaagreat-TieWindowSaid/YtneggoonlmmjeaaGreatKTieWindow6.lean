/- Lemmas: TieDa, TieDb, TieDc, TieDd, TieDf, TieDh, TieDi, TieDj. No condition. -/
import Derived.Test.YtneggoonlmmjeaaGreatKTieWindow5
import Derived.ChangeSlices
import Derived.ChangeMaps
namespace Go.Proofs.YtneggoonlmmjeaaGreat
open Go.RowKit Go.Shelf
set_option linter.unusedVariables false
set_option linter.unusedSimpArgs false
set_option maxRecDepth 100000

theorem r_2_10 : rowsM 2 10 = ⟨[12, 10, 6], 8, true⟩ := by kernel_rfl
/-- It asks, by a number. -/
def askM' (c : CM) (n r v : Int) (b : Bool) : TM := { newM c 4 8 with state := 2, own := n, retries := r, tm := [(29, v)], poll := b }
def askD' (n : Int) : PD := ⟨8, 4, false, 2, 3, 0, 0, true, numB n⟩
theorem ask_0 (c : CM) (n : Int) : doM (newM c 4 8) 0 n = { askM' c n 0 c.ak true with send := [askD' n], used := true } := by
  have e : (newM c 4 8).state.toNat = 0 := rfl
  unfold doM doB
  rw [e, r_0_0]
  rfl
/-- It is connected. -/
def upM (c : CM) (n r : Int) (b : Bool) : TM := { newM c 4 8 with state := 8, own := n, retries := r, epoch := 1, poll := b }
def uaD (l : List Int) : PD := ⟨4, 8, true, 2, 5, 0, 0, true, l⟩
def dmD (l : List Int) : PD := ⟨4, 8, true, 2, 6, 0, 0, true, l⟩
theorem typ_ua (a b c d : Int) : typM (uaD [a, b, c, d]) = 2 := by rfl
theorem hearE_ua (m : TM) (a b c d : Int) : hearE m (uaD [a, b, c, d]) = 10 := by rfl
theorem hear_up (c : CM) (n r v : Int) (p : Bool) (x0 x1 x2 x3 : Int) (hn : numG [x0, x1, x2, x3] = n) : hearM (askM' c n r v p) (uaD [x0, x1, x2, x3]) = { upM c n r true with say := [6], p := some (uaD [x0, x1, x2, x3]) } := by
  have e1 := hearE_ua (askM' c n r v p) x0 x1 x2 x3
  have e2 : hearN (askM' c n r v p) (uaD [x0, x1, x2, x3]) = n := by unfold hearN; rw [e1]; exact hn
  have e3 : hearB (askM' c n r v p) (uaD [x0, x1, x2, x3]) = beginM (askM' c n r v p) (some (uaD [x0, x1, x2, x3])) true 0 := by unfold hearB; rw [e1]; rfl
  have e4 : hearR (askM' c n r v p) (uaD [x0, x1, x2, x3]) = (false, beginM (askM' c n r v p) (some (uaD [x0, x1, x2, x3])) true 0) := by
    unfold hearR numberedM
    rw [e1, e2, e3, if_neg (show ¬((10 : Int) = 8) by decide), if_pos rfl]
    have : decide (n ≠ (beginM (askM' c n r v p) (some (uaD [x0, x1, x2, x3])) true 0).own) = false := decide_eq_false (fun hh => hh rfl)
    rw [this]
  unfold hearM
  rw [e4, if_neg (fun h => by cases h), e1]
  show evM (rowsM 2 10) _ = _
  rw [r_2_10]
  rfl
/-- A connection that was made behind w0: how it stands. -/
structure OwnT (w0 wr : World) (t : Nat) (v : TV) (m : TM) : Prop where
  is : IsTie wr v m
  t : v.t = t
  n0 : w0.heap.size ≤ v.n0
  fr : Fr [] w0 wr
theorem OwnT.fr0 {w0 w1 w2 : World} {t : Nat} {v : TV} {m : TM} (h : OwnT w0 w1 t v m) (f : Fr [] w1 w2) : OwnT w0 w2 t v m := ⟨h.is.fr0 f, h.t, h.n0, h.fr.tr f⟩
theorem OwnT.off {w0 w1 : World} {t : Nat} {v : TV} {m : TM} (h : OwnT w0 w1 t v m) : ∀ x ∈ v.foot, w0.heap.size ≤ x := fun x hx => Nat.le_trans h.n0 (h.is.low.2 x hx)
theorem OwnT.step {w0 w1 w2 : World} {t : Nat} {v v' : TV} {m m' : TM} (h : OwnT w0 w1 t v m) (T : Turned w1 w2 v v') (k : IsTie w2 v' m') : OwnT w0 w2 t v' m' :=
  ⟨k, T.t.trans h.t, by rw [T.n0]; exact h.n0, h.fr.trans T.fr (fun x hx => .inr (h.off x hx))⟩
/-- A call hands out, and leaves it so. -/
def GivesO (w0 w1 : World) (t : Nat) (v : TV) (m : TM) (r : Ending) (w' : World) : Prop := ∃ x v', r = .returned x ∧ OutV w' m v'.foot x ∧ OwnT w0 w' t v' (clearO m) ∧ Fr v.foot w1 w' ∧ ∀ x ∈ v'.foot, x ∈ v.foot ∨ w1.heap.size ≤ x
theorem OwnT.go {w0 w1 : World} {t : Nat} {v : TV} {m M : TM} (h : OwnT w0 w1 t v m) {f : FuncId} {xs : Array Value} (c : Calls Tryz.prog f xs w1 (Gives w1 v M)) : Calls Tryz.prog f xs w1 (GivesO w0 w1 t v M) :=
  c.mono fun _ _ ⟨x, v', e, ho, k, T⟩ => ⟨x, v', e, ho, h.step T k, T.fr, T.new⟩
theorem OwnT.doC {w0 w1 : World} {t : Nat} {v : TV} {m : TM} (h : OwnT w0 w1 t v m) (e : Nat) (n : Int) (j k : Nat) (hi : Inv j k m) (he : e ≤ 7) (h5 : e ≠ 5) (hn : 0 ≤ n ∧ n < 4294967296) (hj : j + 20 ≤ 1000000) :
    Calls Tryz.prog 15 #[.pointer (some ⟨t, 0, none⟩), .int .i64 e, .int .i64 n] w1 (GivesO w0 w1 t v (doM m e n)) := by
  have c := tie_Do w1 v m e j k n h.is hi hn he h5 (by omega)
  rw [h.t] at c
  exact h.go c
theorem OwnT.hearC {w0 w1 : World} {t : Nat} {v : TV} {m : TM} (h : OwnT w0 w1 t v m) (d : PD) (s : Sl) (y : Value) (j k : Nat) (hi : Inv j k m) (ho : hearOk m d) (hs : ∀ N, Bts N w1 s d.info) (hby : ∀ x ∈ d.info, 0 ≤ x ∧ x ≤ 255) (hf : rowFr m.state.toNat (hearE m d).toNat = false) (hj : j + 20 ≤ 1000000) :
    Calls Tryz.prog 22 #[.pointer (some ⟨t, 0, none⟩), d.val s, y] w1 (GivesO w0 w1 t v (hearM m d)) := by
  have c := tie_Hear w1 v m d s y j k h.is hi ho (hs _) hby hf hj
  rw [h.t] at c
  exact h.go c
theorem OwnT.stateC {w0 w1 : World} {t : Nat} {v : TV} {m : TM} (h : OwnT w0 w1 t v m) :
    Calls Tryz.prog 18 #[.pointer (some ⟨t, 0, none⟩)] w1 fun e w' => e = .returned (.int .i64 m.state) ∧ w1 = w' := by
  have c := tie_State w1 v m h.is
  rw [h.t] at c
  exact c
theorem OwnT.epochC {w0 w1 : World} {t : Nat} {v : TV} {m : TM} (h : OwnT w0 w1 t v m) :
    Calls Tryz.prog 53 #[.pointer (some ⟨t, 0, none⟩)] w1 fun e w' => e = .returned (.int .i64 m.epoch) ∧ w1 = w' := by
  have c := tie_Epoch w1 v m h.is
  rw [h.t] at c
  exact c
theorem OwnT.timersC {w0 w1 : World} {t : Nat} {v : TV} {m : TM} (h : OwnT w0 w1 t v m) :
    Calls Tryz.prog 33 #[.pointer (some ⟨t, 0, none⟩)] w1 fun e w' => e = .returned (.int .i64 m.tm.length) ∧ w1 = w' := by
  have c := tie_Timers w1 v m h.is
  rw [h.t] at c
  exact c
theorem OwnT.numbersC {w0 w1 : World} {t : Nat} {v : TV} {m : TM} (h : OwnT w0 w1 t v m) :
    Calls Tryz.prog 55 #[.pointer (some ⟨t, 0, none⟩)] w1 fun e w' => e = .returned (.tuple #[.int .i64 m.own, .int .i64 m.other]) ∧ Fr [] w1 w' := by
  have c := tie_Numbers w1 v m h.is
  rw [h.t] at c
  exact c
theorem OwnT.newC {w0 w1 : World} {c : CM} (hok : c.ok) (f : Fr [] w0 w1) :
    Calls Tryz.prog 13 #[c.val, .int .i64 4, .int .i64 8] w1 fun e w' => ∃ t v, e = .returned (.tuple #[.pointer (some ⟨t, 0, none⟩), .int .i64 0]) ∧ OwnT w0 w' t v (newM c 4 8) := by
  obtain ⟨h1, h2, h3, h4, h5⟩ := c.ok_iff.1 hok
  refine (tie_New c 4 8 w1 h1 h2 h3 h4 rfl rfl h5).mono ?_
  rintro e w' ⟨v, rfl, k, hp, hn, g⟩
  exact ⟨v.t, v, rfl, k, rfl, by rw [hn]; exact f.size, f.tr g⟩
/-- What is behind a connection stays as it was where it lies apart. -/
theorem OutV.send {w w' : World} {m : TM} {F : List Nat} {os oy ok : Sl} {d : PD} {k : Nat} (ha : ∀ x ∈ os.blk ++ (oy.blk ++ ok.blk), x ∉ F) (h : PRow 0 0 os m.send w) (hk : m.send[k]? = some d) (f : Fr F w w') :
    ∃ b, os.A = some ⟨b, 0, none⟩ ∧ w'.cell? ⟨b, k * 9 + 2, none⟩ = some (.bool d.rs) ∧ w'.cell? ⟨b, k * 9 + 3, none⟩ = some (.int .i64 d.fm) ∧ w'.cell? ⟨b, k * 9 + 4, none⟩ = some (.int .i64 d.kd) ∧ w'.cell? ⟨b, k * 9 + 5, none⟩ = some (.int .i64 d.ns) ∧ w'.cell? ⟨b, k * 9 + 6, none⟩ = some (.int .i64 d.nr) ∧ w'.cell? ⟨b, k * 9 + 7, none⟩ = some (.bool d.po) := by
  obtain ⟨b, sd, hA, hb, c0, c1, c2, c3, c4, c5, c6, c7, c8⟩ := h.get hk
  have hn : b ∉ F := ha b (List.mem_append_left _ (by simp [Sl.blk, hA]))
  exact ⟨b, hA, f.cell c2 hn, f.cell c3 hn, f.cell c4 hn, f.cell c5 hn, f.cell c6 hn, f.cell c7 hn⟩
end Go.Proofs.YtneggoonlmmjeaaGreat
namespace Go.Proofs.YtneggoonlmmjeaaGreat
open Go.RowKit Go.Shelf
set_option linter.unusedVariables false
set_option linter.unusedSimpArgs false
set_option maxRecDepth 100000

set_option maxHeartbeats 2000000 in
theorem ref1_Put4 (w : World) (n : Int) (h0 : 0 ≤ n) (h1 : n < 4294967296) :
    Calls Tryz.prog 93 #[.int .i64 n, .int .i64 4] w fun e w' => ∃ s : Sl, e = .returned (.slice s.A s.n s.c) ∧ NewRow w w' 5 1 s (numB n).length ((numB n).map (Value.int .u8)) ∧ Fr [] w w' := by
  obtain ⟨i0, hi0, hz0, hz1, hz2⟩ := u8_info
  have hun : Tryz.prog.underlying 49 = some (.slice 5) := Tryz.underlying49
  have d0 : decide (n < 0) = false := by simp; omega
  have hsh : n / 4294967296 = 0 := by omega
  go_enter Tryz.func93, Tryz.ntmps93
  have d1 : decide (4294967296 ≤ n) = false := by simp; omega
  go_wp2
  clear hsh d0 d1
  go_loopw [5, 6] (fun bv i wr => ∃ j : Nat, ∃ s : Sl, bv = .slice s.A s.n s.c ∧ i = .int .i64 (3 - (j : Int)) ∧ j ≤ 4 ∧ Fr [] w wr ∧ NewRow w wr 5 1 s ((numB n).take j).length (((numB n).take j).map (Value.int .u8))) (fun _ i _ => (intOf i + 1).toNat)
  case atStart => exact ⟨0, Sl.nil, rfl, rfl, by omega, Fr.refl _ _, NewRow.nil _ _ _ _⟩
  case round =>
    obtain ⟨j, s, rfl, rfl, hj, fr, hr⟩ := hrel
    obtain rfl | rfl | rfl | rfl | rfl : j = 0 ∨ j = 1 ∨ j = 2 ∨ j = 3 ∨ j = 4 := by omega
    · have ho := hr
      have HF := Lib.hid fr
      have HO := Lib.hid ho
      have F2 := Lib.hid (fr.alloc (.cells #[.int .u8 (n / 16777216)] 5))
      have HO2 := Lib.hid (own_fr ho.own ((Fr.refl [] wr).alloc (.cells #[.int .u8 (n / 16777216)] 5)))
      have HN2 := Lib.hid (ho.fr ((Fr.refl [] wr).alloc (.cells #[.int .u8 (n / 16777216)] 5)))
      clear ho hr fr
      go_wp2_with (at_builtin; refine wpList_push rfl _ _ 49 rfl 5 i0 (.int .u8 0) 1 1 hun hi0 hz0 hz1 hz2 rfl (by decide) s 0 _ rfl HO2.out _ 1 [.int .u8 (n / 16777216)] rfl Src.one rfl (by intro u hu; simp at hu; subst hu; rfl) (by unfold maxLen; omega) (by omega) ?_)
      intro s3 w3 hp
      have h3 := HN2.out.push F2.out.size hp
      have F3 := HN2.out.frOf F2.out hp
      clear hp
      go_wp2
      go_roundw
      case rel => exact ⟨1, s3, rfl, by go_num, by omega, F3, h3⟩
      case measure => simp [intOf]
    · have ho := hr
      have HF := Lib.hid fr
      have HO := Lib.hid ho
      have F2 := Lib.hid (fr.alloc (.cells #[.int .u8 (n / 65536 % 256)] 5))
      have HO2 := Lib.hid (own_fr ho.own ((Fr.refl [] wr).alloc (.cells #[.int .u8 (n / 65536 % 256)] 5)))
      have HN2 := Lib.hid (ho.fr ((Fr.refl [] wr).alloc (.cells #[.int .u8 (n / 65536 % 256)] 5)))
      clear ho hr fr
      go_wp2_with (at_builtin; refine wpList_push rfl _ _ 49 rfl 5 i0 (.int .u8 0) 1 1 hun hi0 hz0 hz1 hz2 rfl (by decide) s 1 _ rfl HO2.out _ 1 [.int .u8 (n / 65536 % 256)] rfl Src.one rfl (by intro u hu; simp at hu; subst hu; rfl) (by unfold maxLen; omega) (by omega) ?_)
      intro s3 w3 hp
      have h3 := HN2.out.push F2.out.size hp
      have F3 := HN2.out.frOf F2.out hp
      clear hp
      go_wp2
      go_roundw
      case rel => exact ⟨2, s3, rfl, by go_num, by omega, F3, h3⟩
      case measure => simp [intOf]
    · have ho := hr
      have HF := Lib.hid fr
      have HO := Lib.hid ho
      have F2 := Lib.hid (fr.alloc (.cells #[.int .u8 (n / 256 % 256)] 5))
      have HO2 := Lib.hid (own_fr ho.own ((Fr.refl [] wr).alloc (.cells #[.int .u8 (n / 256 % 256)] 5)))
      have HN2 := Lib.hid (ho.fr ((Fr.refl [] wr).alloc (.cells #[.int .u8 (n / 256 % 256)] 5)))
      clear ho hr fr
      go_wp2_with (at_builtin; refine wpList_push rfl _ _ 49 rfl 5 i0 (.int .u8 0) 1 1 hun hi0 hz0 hz1 hz2 rfl (by decide) s 2 _ rfl HO2.out _ 1 [.int .u8 (n / 256 % 256)] rfl Src.one rfl (by intro u hu; simp at hu; subst hu; rfl) (by unfold maxLen; omega) (by omega) ?_)
      intro s3 w3 hp
      have h3 := HN2.out.push F2.out.size hp
      have F3 := HN2.out.frOf F2.out hp
      clear hp
      go_wp2
      go_roundw
      case rel => exact ⟨3, s3, rfl, by go_num, by omega, F3, h3⟩
      case measure => simp [intOf]
    · have ho := hr
      have HF := Lib.hid fr
      have HO := Lib.hid ho
      have F2 := Lib.hid (fr.alloc (.cells #[.int .u8 (n % 256)] 5))
      have HO2 := Lib.hid (own_fr ho.own ((Fr.refl [] wr).alloc (.cells #[.int .u8 (n % 256)] 5)))
      have HN2 := Lib.hid (ho.fr ((Fr.refl [] wr).alloc (.cells #[.int .u8 (n % 256)] 5)))
      clear ho hr fr
      go_wp2_with (at_builtin; refine wpList_push rfl _ _ 49 rfl 5 i0 (.int .u8 0) 1 1 hun hi0 hz0 hz1 hz2 rfl (by decide) s 3 _ rfl HO2.out _ 1 [.int .u8 (n % 256)] rfl Src.one rfl (by intro u hu; simp at hu; subst hu; rfl) (by unfold maxLen; omega) (by omega) ?_)
      intro s3 w3 hp
      have h3 := HN2.out.push F2.out.size hp
      have F3 := HN2.out.frOf F2.out hp
      clear hp
      go_wp2
      go_roundw
      case rel => exact ⟨4, s3, rfl, by go_num, by omega, F3, h3⟩
      case measure => simp [intOf]
    · have H := Lib.hid (And.intro hr fr)
      clear hr fr
      go_wp2
      go_ret
      exact ⟨s, rfl, H.out.1, H.out.2⟩

theorem ref6_Number (w : World) (n : Int) (h0 : 0 ≤ n) (h1 : n < 4294967296) :
    Calls Tryz.prog 54 #[.int .i64 n] w fun e w' => ∃ s : Sl, e = .returned (.slice s.A s.n s.c) ∧ (∀ N, Bts N w' s (numB n)) ∧ Fr [] w w' := by
  go_enter Tryz.func54, Tryz.ntmps54
  have d0 : decide (n < 0) = false := by simp; omega
  have d1 : decide (4294967296 ≤ n) = false := by simp; omega
  go_wp2_with fail
  refine (ref1_Put4 w n h0 h1).mono ?_
  rintro e w1 ⟨s, rfl, hr, f⟩
  have hn : s.n = 4 := own_n hr.own
  have H := Lib.hid (And.intro hr f)
  clear hr f
  clear d0 d1
  obtain ⟨A, n', c⟩ := s
  simp only at hn
  subst hn
  go_wp2
  go_ret
  exact ⟨_, rfl, fun N => Bts.own H.out.1.own (numB_wf n h0 h1) N, H.out.2⟩

end Go.Proofs.YtneggoonlmmjeaaGreat
namespace Go.Proofs.YtneggoonlmmjeaaGreat
open Go.RowKit Go.Shelf
set_option linter.unusedVariables false
set_option linter.unusedSimpArgs false
set_option maxRecDepth 100000

theorem askM'_inv (c : CM) (n r v : Int) (b : Bool) (h : c.ok) (hn : 0 ≤ n ∧ n < 4294967296) (hr : 0 ≤ r ∧ r ≤ 1000) (hv : 1 ≤ v ∧ v ≤ 10000) : Inv 1000 0 (askM' c n r v b) :=
  { (newM_inv c 4 8 h).mono (Nat.zero_le 1000) (Nat.le_refl 0) with st := (by show (0 : Int) ≤ 2 ∧ (2 : Int) < 14; omega), own := hn, retries := hr, tm := ⟨by simp [askM'], fun x hx => by simp [askM'] at hx; subst hx; omega⟩ }
theorem upM_inv (c : CM) (n r : Int) (b : Bool) (h : c.ok) (hn : 0 ≤ n ∧ n < 4294967296) (hr : 0 ≤ r ∧ r ≤ 1000) : Inv 1000 0 (upM c n r b) :=
  { (newM_inv c 4 8 h).mono (Nat.zero_le 1000) (Nat.le_refl 0) with st := (by show (0 : Int) ≤ 8 ∧ (8 : Int) < 14; omega), own := hn, retries := hr, epoch := (by show (0 : Int) ≤ 1 ∧ (1 : Int) ≤ (1000 : Nat); omega) }
theorem ask_clear (c : CM) (n : Int) : clearO { askM' c n 0 c.ak true with send := [askD' n], used := true } = askM' c n 0 c.ak true := rfl
theorem up_clear (c : CM) (n r : Int) (l : List Int) : clearO { upM c n r true with say := [6], p := some (uaD l) } = upM c n r true := rfl
theorem CM.ak_ok {c : CM} (h : c.ok) : 1 ≤ c.ak ∧ c.ak ≤ 10000 := by unfold CM.ok tick at h; omega

set_option maxHeartbeats 4000000 in
theorem law19_awake (w : World) : Calls Tryz.prog 19 #[] w fun e w' => e = .returned (.bool true) ∧ Fr [] w w' := by
  go_enter Tryz.func19, Tryz.ntmps19
  go_wp2_with fail
  refine (law19_Made 3 w).mono ?_
  rintro e w1 ⟨rfl, f1⟩
  have HOK := Lib.hid (madeM_ok 3)
  obtain ⟨c, hc⟩ : ∃ c, madeM 3 = c := ⟨_, rfl⟩
  rw [hc] at HOK
  simp only [hc]
  clear hc
  go_wp2_with fail
  refine (law19_Config c w1).mono ?_
  rintro e w2 ⟨rfl, f2⟩
  have hnew := OwnT.newC HOK.out (f1.tr f2)
  clear f1 f2
  go_wp2_with fail
  refine hnew.mono ?_
  rintro e w3 ⟨t, v, rfl, o3⟩
  clear hnew
  have hdo := o3.doC 0 7 0 0 (newM_inv c 4 8 HOK.out) (by omega) (by omega) (by omega) (by omega)
  rw [ask_0] at hdo
  clear o3
  go_wp2_with fail
  refine hdo.mono ?_
  rintro e w4 ⟨x, v4, rfl, ⟨os, oy, ok, ha, hx, -, -, -, hs, -, -⟩, o4, -⟩
  rw [ask_clear] at o4
  have hx : x = .agg #[.slice os.A 1 os.c, .slice oy.A 0 oy.c, .slice ok.A 0 ok.c, .bool true] := hx
  subst hx
  have HS := Lib.hid (And.intro ha hs)
  have H4 := Lib.hid o4
  have HD := Lib.hid (rfl : true = true)
  clear ha hs o4 hdo
  go_wp2_with fail
  obtain ⟨wA, hwA⟩ : ∃ wA, w4.alloc (.cells #[.slice os.A 1 os.c, .slice oy.A 0 oy.c, .slice ok.A 0 ok.c, .bool true] 36) = wA := ⟨_, rfl⟩
  obtain ⟨wB, hwB⟩ : ∃ wB, wA.alloc (.cells #[.int .u8 0, .int .u8 0, .int .u8 0, .int .u8 7] 5) = wB := ⟨_, rfl⟩
  obtain ⟨O, hO⟩ : ∃ O, w4.heap.size = O := ⟨_, rfl⟩
  have bO : Blk wA O #[.slice os.A 1 os.c, .slice oy.A 0 oy.c, .slice ok.A 0 ok.c, .bool true] 36 := by rw [← hwA, ← hO]; exact Blk.new w4 _ _
  have hsz : wA.heap.size = O + 1 := by rw [← hwA, World.size_alloc, hO]
  have bN : Blk wB (O + 1) #[.int .u8 0, .int .u8 0, .int .u8 0, .int .u8 7] 5 := by rw [← hwB, ← hsz]; exact Blk.new wA _ _
  have fA : Fr [] w4 wA := by rw [← hwA]; exact (Fr.refl _ _).alloc _
  have fB : Fr [] wA wB := by rw [← hwB]; exact (Fr.refl _ _).alloc _
  have hb : ∀ N, Bts N wB ⟨some ⟨O + 1, 0, none⟩, 4, 4⟩ [0, 0, 0, 7] := fun N => ⟨Ints.blk (l := [0, 0, 0, 7]) bN (by decide), fun _ b' hb => .inr (by simp [Sl.blk] at hb; subst hb; exact ⟨_, _, bN⟩)⟩
  have oB := H4.out.fr0 (fA.tr fB)
  have hh := oB.hearC (uaD [0, 0, 0, 7]) _ (.int .i64 8) 1000 0 (askM'_inv c 7 0 c.ak true HOK.out (by omega) (by omega) (CM.ak_ok HOK.out)) ⟨typ_ua 0 0 0 7, rfl, rfl⟩ hb (by intro x hx; simp [uaD] at hx; omega) rfl (by omega)
  rw [hear_up c 7 0 c.ak true 0 0 0 7 rfl] at hh
  have hOn : O ∉ v4.foot := fun hm => by have := H4.out.is.lt O hm; omega
  have HB := Lib.hid (And.intro (bO.fr fB (by simp)) (And.intro hOn (fA.tr fB)))
  clear bO bN fA fB hb oB hOn hsz HD
  simp only [hwA, hwB, hO]
  clear hwA hwB
  refine hh.mono ?_
  rintro e w5 ⟨y, v5, rfl, ⟨os', oy', ok', ha', hy, -, -, -, -, hyo, -⟩, o5, f5, n5⟩
  rw [up_clear] at o5
  have hy : y = .agg #[.slice os'.A 0 os'.c, .slice oy'.A 1 oy'.c, .slice ok'.A 0 ok'.c, .bool false] := hy
  subst hy
  have bO5 := HB.out.1.fr f5 HB.out.2.1
  obtain ⟨b, hA, s2, s3, s4, s5, s6, s7⟩ := OutV.send (m := { askM' c 7 0 c.ak true with send := [askD' 7], used := true }) (k := 0) HS.out.1 (HS.out.2.fr HB.out.2.2) rfl f5
  obtain ⟨oA, on, oc⟩ := os
  simp only at hA
  subst hA
  obtain ⟨d, hyA, hyc⟩ := own_at (n := 1) hyo (by decide)
  obtain ⟨yA, yn, yc⟩ := oy'
  simp only at hyA
  subst hyA
  have y0 := hyc 0 (.int .i64 6) rfl
  have c0 := bO5.cell 0 rfl
  have c3 := bO5.cell 3 rfl
  simp only [List.getElem_toArray, List.getElem_cons_zero, List.getElem_cons_succ] at c0 c3
  have fz := (Fr.refl [] w5).alloc (.cells #[.slice os'.A 0 os'.c, .slice (some ⟨d, 0, none⟩) 1 yc, .slice ok'.A 0 ok'.c, .bool false] 36)
  have o6 := o5.fr0 fz
  have hst := o6.stateC
  have hep := o6.epochC
  have HF := Lib.hid o6.fr
  have e1 : (upM c 7 0 true).state = 8 := rfl
  have e2 : (upM c 7 0 true).epoch = 1 := rfl
  rw [e1] at hst
  rw [e2] at hep
  have HST := Lib.hid hst
  have HEP := Lib.hid hep
  clear hst hep e1 e2 o6 o5 f5 n5 hyo hyc ha' hh bO5
  simp only [askD', Nat.zero_mul, Nat.zero_add] at s4
  have g0 := fz.cell c0 (by simp)
  have g3 := fz.cell c3 (by simp)
  have g4 := fz.cell s4 (by simp)
  have gy := fz.cell y0 (by simp)
  clear c0 c3 s2 s3 s4 s5 s6 s7 y0 fz
  go_wp2_with fail
  refine HST.out.mono ?_
  rintro e w6 ⟨rfl, rfl⟩
  go_wp2_with fail
  refine HEP.out.mono ?_
  rintro e w6 ⟨rfl, rfl⟩
  go_wp2
  go_ret
  exact ⟨rfl, HF.out⟩
end Go.Proofs.YtneggoonlmmjeaaGreat
namespace Go.Proofs.YtneggoonlmmjeaaGreat
open Go.RowKit Go.Shelf
set_option linter.unusedVariables false
set_option linter.unusedSimpArgs false
set_option maxRecDepth 100000

theorem r_8_2 : rowsM 8 2 = ⟨[12, 1, 33, 13], 6, true⟩ := by kernel_rfl
theorem r_8_3 : rowsM 8 3 = ⟨[12, 0, 33, 13], 3, true⟩ := by kernel_rfl
/-- It asks again, connected as it is. -/
def reM (c : CM) (n s : Int) : TM := { newM c 4 8 with state := s, own := n, epoch := 1, poll := true, tm := [(29, c.ak)] }
def endD (n : Int) : PD := ⟨8, 4, false, 2, 4, 0, 0, true, numB n⟩
theorem re_3 (c : CM) (n : Int) : doM (upM c n 0 true) 3 n = { reM c n 3 with send := [askD' n], used := true } := by
  have e : (upM c n 0 true).state.toNat = 8 := rfl
  unfold doM doB
  rw [e, r_8_3]
  rfl
theorem re_2 (c : CM) (n : Int) : doM (upM c n 0 true) 2 n = { reM c n 6 with send := [endD n], used := true } := by
  have e : (upM c n 0 true).state.toNat = 8 := rfl
  unfold doM doB
  rw [e, r_8_2]
  rfl
theorem reM_inv (c : CM) (n s : Int) (h : c.ok) (hn : 0 ≤ n ∧ n < 4294967296) (hs : 0 ≤ s ∧ s < 14) : Inv 1000 0 (reM c n s) :=
  { (newM_inv c 4 8 h).mono (Nat.zero_le 1000) (Nat.le_refl 0) with st := hs, own := hn, epoch := (by show (0 : Int) ≤ 1 ∧ (1 : Int) ≤ (1000 : Nat); omega), tm := ⟨by simp [reM], fun x hx => by have := CM.ak_ok h; simp [reM] at hx; subst hx; dsimp only; omega⟩ }
/-- Who waits. -/
structure Waits (M : TM) (n : Int) (s k : Int) : Prop where
  inv : Inv 1000 0 M
  near : M.near = 4
  there : M.there = 8
  st : M.state = s
  sts : s = 2 ∨ s = 3 ∨ s = 6
  own : M.own = n
  tm : (M.tm.length : Int) = k
theorem waits_ask (c : CM) (n : Int) (h : c.ok) (hn : 0 ≤ n ∧ n < 4294967296) : Waits (askM' c n 0 c.ak true) n 2 1 := ⟨askM'_inv c n 0 c.ak true h hn (by omega) (CM.ak_ok h), rfl, rfl, rfl, .inl rfl, rfl, rfl⟩
theorem waits_re (c : CM) (n s : Int) (h : c.ok) (hn : 0 ≤ n ∧ n < 4294967296) (hs : s = 2 ∨ s = 3 ∨ s = 6) : Waits (reM c n s) n s 1 := ⟨reM_inv c n s h hn (by omega), rfl, rfl, rfl, hs, rfl, rfl⟩
theorem numG_numB (n : Int) (h0 : 0 ≤ n) (h1 : n < 4294967296) : numG (numB n) = n := by
  show (((0 * 256 + n / 16777216) * 256 + n / 65536 % 256) * 256 + n / 256 % 256) * 256 + n % 256 = n
  omega
/-- An elder answer. -/
def oldD (b : Bool) (x : Int) : PD := bif b then dmD (numB x) else uaD (numB x)
theorem oldD_info (b : Bool) (x : Int) : (oldD b x).info = numB x := by cases b <;> rfl
theorem oldD_ok (M : TM) (n s k : Int) (h : Waits M n s k) (b : Bool) (x : Int) : hearOk M (oldD b x) := by
  cases b
  · exact ⟨rfl, h.there.symm, h.near.symm⟩
  · exact ⟨rfl, h.there.symm, h.near.symm⟩
theorem oldD_E (M : TM) (b : Bool) (x : Int) : hearE M (oldD b x) = bif b then 11 else 10 := by cases b <;> rfl
theorem oldD_fr (M : TM) (n s k : Int) (h : Waits M n s k) (b : Bool) (x : Int) : rowFr M.state.toNat (hearE M (oldD b x)).toNat = false := by
  rw [oldD_E, h.st]
  rcases h.sts with e | e | e <;> rw [e] <;> cases b <;> rfl
theorem oldD_hear (M : TM) (n s k : Int) (h : Waits M n s k) (b : Bool) (x : Int) (h0 : 0 ≤ x) (h1 : x < 4294967296) (hx : x ≠ n) : hearM M (oldD b x) = beginM M (some (oldD b x)) true 0 := by
  have e1 := oldD_E M b x
  have e2 : hearN M (oldD b x) = x := by
    unfold hearN
    rw [e1, oldD_info, numG_numB x h0 h1]
    cases b <;> rfl
  have e3 : hearB M (oldD b x) = beginM M (some (oldD b x)) true 0 := by
    unfold hearB
    rw [e1]
    cases b <;> rfl
  have e4 : hearR M (oldD b x) = (true, beginM M (some (oldD b x)) true 0) := by
    unfold hearR numberedM
    rw [e1, e2, e3]
    have ho : (beginM M (some (oldD b x)) true 0).own = n := h.own
    have hs : (beginM M (some (oldD b x)) true 0).state = s := h.st
    rw [ho, hs]
    cases b
    · show (if (10 : Int) = 8 then _ else if (10 : Int) = 10 then (decide (x ≠ n), _) else _) = _
      rw [if_neg (by decide), if_pos rfl, decide_eq_true hx]
    · show (if (11 : Int) = 8 then _ else if (11 : Int) = 10 then _ else if (11 : Int) = 11 then (decide ((s = 2 ∨ s = 3 ∨ s = 6) ∧ x ≠ n), _) else _) = _
      rw [if_neg (by decide), if_neg (by decide), if_pos rfl, decide_eq_true ⟨h.sts, hx⟩]
  unfold hearM
  rw [e4, if_pos rfl]
theorem old_state (M : TM) (n s k : Int) (h : Waits M n s k) (p : Option PD) : (clearO (beginM M p true 0)).state = s ∧ (clearO (beginM M p true 0)).own = n ∧ ((clearO (beginM M p true 0)).tm.length : Int) = k := ⟨h.st, h.own, h.tm⟩
end Go.Proofs.YtneggoonlmmjeaaGreat
namespace Go.Proofs.YtneggoonlmmjeaaGreat
open Go.RowKit Go.Shelf
set_option linter.unusedVariables false
set_option linter.unusedSimpArgs false
set_option maxRecDepth 100000

/-- A call hands out, with no fault. -/
def GivesE (w0 w1 : World) (t : Nat) (v : TV) (m : TM) (r : Ending) (w' : World) : Prop := ∃ x v', r = .returned (.tuple #[x, .int .i64 0]) ∧ OutV w' m v'.foot x ∧ OwnT w0 w' t v' (clearO m) ∧ Fr v.foot w1 w' ∧ ∀ x ∈ v'.foot, x ∈ v.foot ∨ w1.heap.size ≤ x
/-- Refused by so much. -/
def Refused (w : World) (k : Int) (e : Ending) (w' : World) : Prop := e = .returned (.tuple #[.agg #[.slice none 0 0, .slice none 0 0, .slice none 0 0, .bool false], .int .i64 k]) ∧ Fr [] w w'
theorem OwnT.sendC {w0 w1 : World} {t : Nat} {v : TV} {m : TM} (h : OwnT w0 w1 t v m) (s : Sl) (x : List Int) (j k : Nat) (hi : Inv j k m) (hx : Ints .u8 w1 s.v x) (hst : 8 ≤ m.state) (hl : x.length ≤ 1024) (hq : m.q.length < 64) (hj : j + 20 ≤ 1000000) :
    Calls Tryz.prog 21 #[.pointer (some ⟨t, 0, none⟩), .slice s.A s.n s.c] w1 (GivesE w0 w1 t v (sentM m x)) := by
  have c := tie_Send w1 v m s x j k h.is hi hx hst hl hq hj
  rw [h.t] at c
  exact c.mono fun _ _ ⟨x, v', e, ho, k, T⟩ => ⟨x, v', e, ho, h.step T k, T.fr, T.new⟩
theorem OwnT.sendC9 {w0 w1 : World} {t : Nat} {v : TV} {m : TM} (h : OwnT w0 w1 t v m) (s : Sl) (x : List Int) (hx : Ints .u8 w1 s.v x) (hst : m.state < 8) :
    Calls Tryz.prog 21 #[.pointer (some ⟨t, 0, none⟩), .slice s.A s.n s.c] w1 (Refused w1 9) := by
  have c := send_state w1 v m s x h.is hx hst
  rw [h.t] at c
  exact c
theorem OwnT.sendC3 {w0 w1 : World} {t : Nat} {v : TV} {m : TM} (h : OwnT w0 w1 t v m) (s : Sl) (x : List Int) (hx : Ints .u8 w1 s.v x) (hst : 8 ≤ m.state) (hl : 1024 < x.length) :
    Calls Tryz.prog 21 #[.pointer (some ⟨t, 0, none⟩), .slice s.A s.n s.c] w1 (Refused w1 3) := by
  have c := send_long w1 v m s x h.is hx hst hl
  rw [h.t] at c
  exact c
theorem OwnT.sendC6 {w0 w1 : World} {t : Nat} {v : TV} {m : TM} (h : OwnT w0 w1 t v m) (s : Sl) (x : List Int) (hx : Ints .u8 w1 s.v x) (hst : 8 ≤ m.state) (hl : x.length ≤ 1024) (hf : 64 ≤ m.q.length) :
    Calls Tryz.prog 21 #[.pointer (some ⟨t, 0, none⟩), .slice s.A s.n s.c] w1 (Refused w1 6) := by
  have c := send_full w1 v m s x h.is hx hst hl hf
  rw [h.t] at c
  exact c
theorem OwnT.queueC {w0 w1 : World} {t : Nat} {v : TV} {m : TM} (h : OwnT w0 w1 t v m) :
    Calls Tryz.prog 23 #[.pointer (some ⟨t, 0, none⟩)] w1 fun e w' => e = .returned (.tuple #[.int .i64 m.q.length, .int .i64 m.out]) ∧ Fr [] w1 w' := by
  have c := tie_Queue w1 v m h.is
  rw [h.t] at c
  exact c
/-- A block that lies apart. -/
structure Aside (w : World) (v : TV) (P : Nat) (cs : Array Value) (ty : TypeId) : Prop where
  blk : Blk w P cs ty
  off : P ∉ v.foot
theorem Aside.fr0 {w w' : World} {v : TV} {P : Nat} {cs : Array Value} {ty : TypeId} (h : Aside w v P cs ty) (f : Fr [] w w') : Aside w' v P cs ty := ⟨h.blk.fr f (by simp), h.off⟩
theorem Aside.step {w w' : World} {v v' : TV} {P : Nat} {cs : Array Value} {ty : TypeId} (h : Aside w v P cs ty) (f : Fr v.foot w w') (n : ∀ x ∈ v'.foot, x ∈ v.foot ∨ w.heap.size ≤ x) : Aside w' v' P cs ty :=
  ⟨h.blk.fr f h.off, fun hm => by
    rcases n P hm with h1 | h1
    · exact h.off h1
    · have := h.blk.lt; omega⟩
theorem Aside.new {w0 w : World} {t : Nat} {v : TV} {m : TM} (h : OwnT w0 w t v m) (cs : Array Value) (ty : TypeId) : Aside (w.alloc (.cells cs ty)) v w.heap.size cs ty :=
  ⟨Blk.new w cs ty, fun hm => Nat.lt_irrefl _ (h.is.lt _ hm)⟩

theorem r_8_5 : rowsM 8 5 = ⟨[31], 8, true⟩ := by kernel_rfl
/-- Connected, so much waits, so many are out. -/
def queM (c : CM) (n : Int) (b : Bool) (l : List (List Int)) (o : Nat) : TM := { upM c n 0 b with q := l, out := o, vs := (o : Int), tm := if o = 0 then [] else [(29, c.ak)] }
theorem up_que (c : CM) (n : Int) (b : Bool) : upM c n 0 b = queM c n b [] 0 := rfl
def iD (o : Nat) (x : List Int) : PD := ⟨8, 4, false, 0, 0, o, 0, false, x⟩
theorem que_begin (c : CM) (n : Int) (b : Bool) (l : List (List Int)) (o : Nat) (x : List Int) : sendB (queM c n b l o) x = queM c n false (l ++ [x]) o := rfl
theorem que_push1 (c : CM) (n : Int) (L : List (List Int)) (o : Nat) (h : L.length = o + 1) (ho : (o : Int) < c.wd) (hw : c.wd ≤ 64) (ha : c.ak ≠ 0) : pushM (queM c n false L o) = { queM c n false L (o + 1) with send := [iD o (L.getD o [])] } := by
  have e1 : (queM c n false L o).q.length - (queM c n false L o).out = 1 := by show L.length - o = 1; omega
  have e2 : mayPush (queM c n false L o) := by
    refine ⟨rfl, ?_, ?_⟩
    · show ((o : Int) - 0) % 128 < c.wd; omega
    · show o < L.length; omega
  have e3 : pushL 1 (queM c n false L o) = pushS (queM c n false L o) := by rw [pushL, if_pos e2]; rfl
  have e4 : ((o : Int) + 1) % 128 = ((o + 1 : Nat) : Int) := by push_cast; omega
  unfold pushM
  rw [e1, e3]
  dsimp only
  have ev : (pushS (queM c n false L o)).vs = ((o + 1 : Nat) : Int) := e4
  have ea : (pushS (queM c n false L o)).va = 0 := rfl
  rw [ev, ea]
  by_cases h0 : o = 0
  · subst h0
    have et : (pushS (queM c n false L 0)).tm = [] := rfl
    rw [et, if_pos ⟨by simp, rfl⟩]
    rfl
  · have et : (pushS (queM c n false L o)).tm = [(29, c.ak)] := by show (if o = 0 then _ else _) = _; rw [if_neg h0]
    rw [et, if_neg (fun hh => ha hh.2)]
    unfold pushS sendM queM
    rw [if_neg h0, if_neg (Nat.succ_ne_zero o)]
    show TM.mk .. = TM.mk ..
    congr 1
theorem que_push0 (c : CM) (n : Int) (L : List (List Int)) (o : Nat) (h0 : 0 < o) (ho : (o : Int) = c.wd) (hw : c.wd ≤ 64) (ha : c.ak ≠ 0) : pushM (queM c n false L o) = queM c n false L o := by
  have e2 : ¬ mayPush (queM c n false L o) := fun ⟨_, hh, _⟩ => by
    have hh : ((o : Int) - 0) % 128 < c.wd := hh
    omega
  have e3 : ∀ k, pushL k (queM c n false L o) = queM c n false L o := fun k => by
    cases k with
    | zero => rfl
    | succ k => rw [pushL, if_neg e2]
  have et : (queM c n false L o).tm = [(29, c.ak)] := by show (if o = 0 then _ else _) = _; rw [if_neg (by omega)]
  unfold pushM
  rw [e3]
  dsimp only
  rw [et, if_neg (fun hh => ha hh.2)]
theorem que_sent (c : CM) (n : Int) (b : Bool) (l : List (List Int)) (o : Nat) (x : List Int) (R : TM) (h : pushM (queM c n false (l ++ [x]) o) = R) (hs : R.state = 8) : sentM (queM c n b l o) x = R := by
  unfold sentM
  rw [que_begin]
  show evM (rowsM 8 5) _ = R
  rw [r_8_5]
  show { pushM (queM c n false (l ++ [x]) o) with state := 8 } = R
  rw [h, ← hs]
theorem que_sent1 (c : CM) (h : c.ok) (n : Int) (b : Bool) (l : List (List Int)) (x : List Int) (ho : (l.length : Int) < c.wd) : sentM (queM c n b l l.length) x = { queM c n false (l ++ [x]) (l.length + 1) with send := [iD l.length x] } := by
  refine que_sent c n b l l.length x _ ((que_push1 c n (l ++ [x]) l.length (by simp) ho (by unfold CM.ok at h; omega) (by have := CM.ak_ok h; omega)).trans ?_) rfl
  simp
theorem que_sent0 (c : CM) (h : c.ok) (n : Int) (b : Bool) (l : List (List Int)) (o : Nat) (x : List Int) (ho : (o : Int) = c.wd) : sentM (queM c n b l o) x = queM c n false (l ++ [x]) o :=
  que_sent c n b l o x _ (que_push0 c n (l ++ [x]) o (by unfold CM.ok at h; omega) ho (by unfold CM.ok at h; omega) (by have := CM.ak_ok h; omega)) rfl
theorem queM_inv (c : CM) (n : Int) (b : Bool) (l : List (List Int)) (o : Nat) (h : c.ok) (hn : 0 ≤ n ∧ n < 4294967296) (hl : l.length ≤ 64) (ho : o ≤ l.length) (hw : (o : Int) ≤ c.wd) (hx : ∀ x ∈ l, x.length ≤ 1024) : Inv 1000 0 (queM c n b l o) := by
  have hu := upM_inv c n 0 b h hn (by omega)
  have hk := CM.ak_ok h
  refine { hu with vs := ?_, dist := ?_, out := ?_, q := ?_, sdu := ?_, tm := ?_ }
  · show (0 : Int) ≤ (o : Int) ∧ (o : Int) < 128; omega
  · show (o : Int) = ((o : Int) - 0) % 128; omega
  · exact ho
  · exact hl
  · exact hx
  · show TmOk (if o = 0 then [] else [(29, c.ak)])
    by_cases h0 : o = 0
    · rw [if_pos h0]; exact TmOk.nil
    · rw [if_neg h0]; exact ⟨by simp, fun x hx => by simp at hx; subst hx; dsimp only; omega⟩
theorem known_hear (c : CM) (h : c.ok) : hearM (askM' c 7 0 c.ak true) (uaD [0, 0, 0, 6]) = { askM' c 7 0 c.ak true with p := some (uaD [0, 0, 0, 6]) } :=
  (oldD_hear (askM' c 7 0 c.ak true) 7 2 1 (waits_ask c 7 h (by omega)) false 6 (by omega) (by omega) (by omega)).trans rfl
theorem bts_new (w : World) (l : List Int) (a : Array Value) (n : Nat) (ha : a = (l.map (Value.int .u8)).toArray) (hl : n = l.length) (h : ∀ x ∈ l, (Lit.int .u8 x).wf = true) (N : Nat) : Bts N (w.alloc (.cells a 5)) ⟨some ⟨w.heap.size, 0, none⟩, n, n⟩ l := by
  subst ha hl
  have hb := Blk.new w (l.map (Value.int .u8)).toArray 5
  exact ⟨Ints.blk hb h, fun _ b' hb' => .inr (by simp [Sl.blk] at hb'; subst hb'; exact ⟨_, _, hb⟩)⟩
end Go.Proofs.YtneggoonlmmjeaaGreat
namespace Go.Proofs.YtneggoonlmmjeaaGreat
open Go.RowKit Go.Shelf
set_option linter.unusedVariables false
set_option linter.unusedSimpArgs false
set_option maxRecDepth 100000

open Go.ChangeMaps Go.ChangeShapes Go.WideShapes Go.ChangeAt in
/-- A slice argument that may be nil. -/
theorem Ints.open_ {H : Type} {enc : TypeId × Value → H} {P : Program} {w : World} {base : Nat} {spare : Nat → Bool} {held : Bool} {t e : TypeId} {k : IntKind} {A : Option Addr} {len cap : Nat} {d : DataW H} {p : List MemPlace}
    (ht : P.underlying t = some (.slice e)) (he : P.underlying e = some (.int k)) (hc : P.cellsOf e = 1) (h : DataW.Trod enc P w base spare held t (.slice A len cap) d p) :
    ∃ l : List Int, l.length = len ∧ len ≤ 9223372036854775807 ∧ Ints k w (.slice A len cap) l := by
  obtain ⟨fuel, hf⟩ := h
  rcases open_ints ht he hc hf with ⟨hcs, _⟩ | ⟨x, l, c, zs, hcs, _, hl, hm, hz, _, hcell, hwz⟩
  · simp [Value.cells] at hcs
    obtain ⟨rfl, rfl, rfl⟩ := hcs
    exact ⟨[], rfl, by omega, .inl ⟨rfl, rfl⟩⟩
  · simp [Value.cells] at hcs
    obtain ⟨rfl, rfl, rfl⟩ := hcs
    unfold maxLen at hm
    have hle : len ≤ zs.length := by rw [hz]; split <;> omega
    have hlen : (zs.take len).length = len := by simp; omega
    exact ⟨zs.take len, hlen, by omega, .inr ⟨_, _, by rw [hlen], ArgInts.of len hle hcell hwz⟩⟩
theorem r_ua1 (c : CM) (n : Int) : clearO { upM c n 0 true with say := [6], p := some (uaD [0, 0, 0, 1]) } = upM c n 0 true := rfl
/-- So much is out. -/
def outN (c : CM) (k : Nat) : Nat := min k c.wd.toNat
theorem que_step (c : CM) (h : c.ok) (n : Int) (b : Bool) (l : List (List Int)) (x : List Int) : clearO (sentM (queM c n b l (outN c l.length)) x) = queM c n false (l ++ [x]) (outN c (l ++ [x]).length) := by
  have hw : 1 ≤ c.wd ∧ c.wd ≤ 64 := by unfold CM.ok at h; omega
  rw [List.length_append, List.length_singleton]
  by_cases hk : (l.length : Int) < c.wd
  · rw [show outN c l.length = l.length by unfold outN; omega, show outN c (l.length + 1) = l.length + 1 by unfold outN; omega, que_sent1 c h n b l x hk]
    rfl
  · have e1 : ((outN c l.length : Nat) : Int) = c.wd := by unfold outN; omega
    rw [show outN c (l.length + 1) = outN c l.length by unfold outN; omega, que_sent0 c h n b l _ x e1]
    rfl
theorem que_inv (c : CM) (h : c.ok) (n : Int) (hn : 0 ≤ n ∧ n < 4294967296) (b : Bool) (l : List (List Int)) (hl : l.length ≤ 64) (hx : ∀ x ∈ l, x.length ≤ 1024) : Inv 1000 0 (queM c n b l (outN c l.length)) := by
  have hw : 1 ≤ c.wd ∧ c.wd ≤ 64 := by unfold CM.ok at h; omega
  exact queM_inv c n b l _ h hn hl (by unfold outN; omega) (by unfold outN; omega) hx
theorem fldW (c : CM) (w : World) : (Instr.field 24 c.val 0).run Tryz.prog w = .ok (.int .i64 c.wd) w := by kernel_rfl
attribute [local go_sem] fldW
set_option maxHeartbeats 8000000 in
theorem walk_TieQueue (w : World) (n : Int) (hn : (Lit.int .i64 n).wf = true) (s : Sl) (more : List Int) (hm : more.length ≤ 9223372036854775807) (hmore : Ints .u8 w s.v more) :
    Calls Tryz.prog 6 #[.int .i64 n, .slice s.A s.n s.c] w fun e w' => e = .returned (.bool true) ∧ Fr [] w w' := by
  have hsn : s.n = more.length := hmore.n'
  obtain ⟨sA, sn, sc⟩ := s
  simp only at hsn
  have HM := Lib.hid (And.intro hmore hsn)
  clear hm hmore hsn
  dsimp only
  go_enter Tryz.func6, Tryz.ntmps6
  go_wp2_with fail
  refine (law19_awake w).mono ?_
  rintro e w1 ⟨rfl, f1⟩
  have F1 := Lib.hid f1
  clear f1
  by_cases hbig : (1100 : Int) < sn
  · have d1 : decide ((1100 : Int) < sn) = true := by simpa using hbig
    clear hbig
    go_wp2
    go_ret
    exact ⟨rfl, F1.out⟩
  have d1 : decide ((1100 : Int) < sn) = false := by simpa using hbig
  have HBIG := Lib.hid hbig
  clear hbig
  go_wp2_with fail
  refine (law19_Made n w1).mono ?_
  rintro e w2 ⟨rfl, f2⟩
  have HOK := Lib.hid (madeM_ok n)
  obtain ⟨c, hc⟩ : ∃ c, madeM n = c := ⟨_, rfl⟩
  have HC := Lib.hid hc
  rw [hc] at HOK
  simp only [hc]
  clear hc d1
  go_wp2_with fail
  refine (law19_Config c w2).mono ?_
  rintro e w3 ⟨rfl, f3⟩
  have hnew := OwnT.newC HOK.out (F1.out.tr (f2.tr f3))
  clear f2 f3
  go_wp2_with fail
  refine hnew.mono ?_
  rintro e w8 ⟨t, v, rfl, o8⟩
  clear hnew
  have b8 := bts_new w8 [1] #[.int .u8 1] 1 rfl rfl (by decide) 0
  have f8 := (Fr.refl [] w8).alloc (.cells #[.int .u8 1] 5)
  have hs := (o8.fr0 f8).sendC9 _ [1] b8.1 (by show (0 : Int) < 8; omega)
  have H8 := Lib.hid (o8.fr0 f8)
  clear o8 b8 f8
  go_wp2_with fail
  refine hs.mono ?_
  rintro e w9 ⟨rfl, f9⟩
  have o10 := (H8.out.fr0 f9).fr0 ((Fr.refl [] w9).alloc (.cells #[.slice none 0 0, .slice none 0 0, .slice none 0 0, .bool false] 36))
  clear hs f9
  have hdo := o10.doC 0 1 0 0 (newM_inv c 4 8 HOK.out) (by omega) (by omega) (by omega) (by omega)
  rw [ask_0] at hdo
  clear o10
  go_wp2_with fail
  refine hdo.mono ?_
  rintro e w11 ⟨x11, v11, rfl, -, o11, -⟩
  rw [ask_clear] at o11
  clear hdo
  have b8 := bts_new w11 [1] #[.int .u8 1] 1 rfl rfl (by decide) 0
  have f8 := (Fr.refl [] w11).alloc (.cells #[.int .u8 1] 5)
  have hs := (o11.fr0 f8).sendC9 _ [1] b8.1 (by show (2 : Int) < 8; omega)
  have H11 := Lib.hid (o11.fr0 f8)
  clear o11 b8 f8
  go_wp2_with fail
  refine hs.mono ?_
  rintro e w12 ⟨rfl, f12⟩
  have o13 := (H11.out.fr0 f12).fr0 ((Fr.refl [] w12).alloc (.cells #[.slice none 0 0, .slice none 0 0, .slice none 0 0, .bool false] 36))
  clear hs f12
  have b14 := bts_new (w12.alloc (.cells #[.slice none 0 0, .slice none 0 0, .slice none 0 0, .bool false] 36)) [0, 0, 0, 1] #[.int .u8 0, .int .u8 0, .int .u8 0, .int .u8 1] 4 rfl rfl (by decide)
  have f14 := (Fr.refl [] (w12.alloc (.cells #[.slice none 0 0, .slice none 0 0, .slice none 0 0, .bool false] 36))).alloc (.cells #[.int .u8 0, .int .u8 0, .int .u8 0, .int .u8 1] 5)
  have hh := (o13.fr0 f14).hearC (uaD [0, 0, 0, 1]) _ (.int .i64 2) 1000 0 (askM'_inv c 1 0 c.ak true HOK.out (by omega) (by omega) (CM.ak_ok HOK.out)) ⟨rfl, rfl, rfl⟩ b14 (by intro x hx; simp [uaD] at hx; omega) rfl (by omega)
  rw [hear_up c 1 0 c.ak true 0 0 0 1 rfl] at hh
  try simp only [World.size_alloc] at hh
  clear b14 f14 o13
  go_wp2_with fail
  refine hh.mono ?_
  rintro e w15 ⟨x15, v15, rfl, -, o15, -⟩
  rw [r_ua1] at o15
  have H15 := Lib.hid o15
  clear hh o15
  go_wp2
  go_loopw [11] (fun i wr => ∃ b l v', i = .int .i64 (l.length : Int) ∧ l.length ≤ 64 ∧ (∀ x ∈ l, x.length ≤ 1024) ∧ OwnT w wr t v' (queM c 1 b l (outN c l.length))) (fun i _ => (64 - intOf i).toNat)
  case atStart => exact ⟨true, [], v15, rfl, by simp, by simp, H15.out⟩
  case round =>
    obtain ⟨b, l, v', rfl, hl, hx, o'⟩ := hrel
    have HI := Lib.hid (que_inv c HOK.out 1 (by omega) b l hl hx)
    have HX := Lib.hid (And.intro hl hx)
    by_cases hk : l.length < 64
    · have d1 : decide ((l.length : Int) < 64) = true := by simp; omega
      have hb1 : IntKind.u8.wrap (l.length : Int) = l.length := by unfold IntKind.wrap; simp [IntKind.bits, IntKind.signed]; omega
      have hwX : IntKind.i64.wrap ((l.length : Int) + 1) = (l.length : Int) + 1 := IntWalk.i64_in _ (by omega)
      have b8 := bts_new wr [(l.length : Int)] #[.int .u8 (l.length : Int)] 1 rfl rfl (by intro x hx; simp at hx; subst hx; exact u8_wf (by omega) (by omega)) 0
      have f8 := (Fr.refl [] wr).alloc (.cells #[.int .u8 (l.length : Int)] 5)
      have hs := (o'.fr0 f8).sendC _ [(l.length : Int)] 1000 0 HI.out b8.1 (by show (8 : Int) ≤ 8; omega) (by simp) (by show l.length < 64; exact hk) (by omega)
      have HK := Lib.hid hk
      clear b8 f8 o' hk hl hx
      go_wp2_with fail
      refine hs.mono ?_
      rintro e w16 ⟨x16, v16, rfl, ⟨ps, py, pk, -, hx, -⟩, o16, -⟩
      subst hx
      rw [que_step c HOK.out 1 b l] at o16
      have H16 := Lib.hid o16
      clear hs o16
      go_wp2
      go_roundw
      case rel =>
        refine ⟨false, l ++ [[(l.length : Int)]], v16, by simp, by simp; have := HK.out; omega, ?_, ?_⟩
        · intro x hx
          rcases List.mem_append.1 hx with h | h
          · exact HX.out.2 x h
          · simp at h; subst h; simp
        · exact H16.out.fr0 ((Fr.refl [] w16).alloc _)
      case measure => simp [intOf]; have := HK.out; omega
    · have hk64 : l.length = 64 := by omega
      have d1 : decide ((l.length : Int) < 64) = false := by simp; omega
      have hq : ∀ (wx : World), OwnT w wx t v' (queM c 1 b l (outN c l.length)) → Calls Tryz.prog 23 #[.pointer (some ⟨t, 0, none⟩)] wx fun e w' => e = .returned (.tuple #[.int .i64 64, .int .i64 c.wd]) ∧ Fr [] wx w' := fun wx ox => by
        have h := ox.queueC
        have e1 : (((queM c 1 b l (outN c l.length)).q.length : Nat) : Int) = 64 := by show ((l.length : Nat) : Int) = 64; omega
        have e2 : (((queM c 1 b l (outN c l.length)).out : Nat) : Int) = c.wd := by
          show ((outN c l.length : Nat) : Int) = c.wd
          have hw : 1 ≤ c.wd ∧ c.wd ≤ 64 := by have := HOK.out; unfold CM.ok at this; omega
          unfold outN; omega
        rw [e1, e2] at h
        exact h
      have HQ := Lib.hid hq
      have hq1 := hq _ o'
      have o17 := Lib.hid o'
      clear hq o'
      go_wp2_with fail
      refine hq1.mono ?_
      rintro e w18 ⟨rfl, fq⟩
      have hmo := HM.out.1.fr (o17.out.fr.tr fq)
      have o18 := o17.out
      clear hq1 d1
      have hml := HM.out.2
      have hbg := HBIG.out
      rcases (show (1024 : Int) < sn ∨ ¬ (1024 : Int) < sn by omega) with hlong | hlong
      · have d2 : decide ((1024 : Int) < sn) = true := by simp; omega
        have hs := (o18.fr0 fq).sendC3 ⟨sA, sn, sc⟩ more hmo (by show (8 : Int) ≤ 8; omega) (by omega)
        have HLG := Lib.hid (And.intro hlong (And.intro hml hbg))
        clear hlong hml hbg hmo
        go_wp2_with fail
        refine hs.mono ?_
        rintro e w19 ⟨rfl, f19⟩
        have A19 := Blk.new w19 #[.slice none 0 0, .slice none 0 0, .slice none 0 0, .bool false] 36
        have f20 := (Fr.refl [] w19).alloc (.cells #[.slice none 0 0, .slice none 0 0, .slice none 0 0, .bool false] 36)
        have hq2 := HQ.out _ ((o18.fr0 fq).fr0 f19 |>.fr0 f20)
        have H20 := Lib.hid (And.intro A19 ((o18.fr0 fq).fr0 f19 |>.fr0 f20).fr)
        clear hs f19 f20 A19 o18 fq
        go_wp2_with fail
        refine hq2.mono ?_
        rintro e w21 ⟨rfl, f21⟩
        have bz := H20.out.1.fr f21 (by simp)
        have c0 := bz.cell 0 rfl
        simp only [List.getElem_toArray, List.getElem_cons_zero] at c0
        have HF := Lib.hid (H20.out.2.tr f21)
        clear bz f21 hq2
        have ew : (c.wd == c.wd) = true := beq_self_eq_true _
        go_wp2_with fail
        refine (law19_Made n w21).mono ?_
        rintro e w22 ⟨rfl, f22⟩
        rw [HC.out]
        go_wp2
        go_ret
        exact ⟨rfl, HF.out.tr f22⟩
      · have d2 : decide ((1024 : Int) < sn) = false := by simp; omega
        have hs := (o18.fr0 fq).sendC6 ⟨sA, sn, sc⟩ more hmo (by show (8 : Int) ≤ 8; omega) (by omega) (by show 64 ≤ l.length; omega)
        have HLG := Lib.hid (And.intro hlong (And.intro hml hbg))
        clear hlong hml hbg hmo
        go_wp2_with fail
        refine hs.mono ?_
        rintro e w19 ⟨rfl, f19⟩
        have A19 := Blk.new w19 #[.slice none 0 0, .slice none 0 0, .slice none 0 0, .bool false] 36
        have f20 := (Fr.refl [] w19).alloc (.cells #[.slice none 0 0, .slice none 0 0, .slice none 0 0, .bool false] 36)
        have hq2 := HQ.out _ ((o18.fr0 fq).fr0 f19 |>.fr0 f20)
        have H20 := Lib.hid (And.intro A19 ((o18.fr0 fq).fr0 f19 |>.fr0 f20).fr)
        clear hs f19 f20 A19 o18 fq
        go_wp2_with fail
        refine hq2.mono ?_
        rintro e w21 ⟨rfl, f21⟩
        have bz := H20.out.1.fr f21 (by simp)
        have c0 := bz.cell 0 rfl
        simp only [List.getElem_toArray, List.getElem_cons_zero] at c0
        have HF := Lib.hid (H20.out.2.tr f21)
        clear bz f21 hq2
        have ew : (c.wd == c.wd) = true := beq_self_eq_true _
        go_wp2_with fail
        refine (law19_Made n w21).mono ?_
        rintro e w22 ⟨rfl, f22⟩
        rw [HC.out]
        go_wp2
        go_ret
        exact ⟨rfl, HF.out.tr f22⟩
end Go.Proofs.YtneggoonlmmjeaaGreat
namespace Go.Proofs.YtneggoonlmmjeaaGreat
open Go.RowKit Go.Shelf
set_option linter.unusedVariables false
set_option linter.unusedSimpArgs false
set_option maxRecDepth 100000

theorem wfin_inv (m n : Int) : ∀ (k : Nat) (s : WS), 1 ≤ s.d → s.d ≤ m → 0 ≤ s.c → s.c < s.d → 2 * s.i = s.d * s.d - s.d + 2 * s.c → s.i ≤ n → n - s.i ≤ k →
    1 ≤ (wfin m n k s).d ∧ (wfin m n k s).d ≤ m ∧ 0 ≤ (wfin m n k s).c ∧ (wfin m n k s).c < (wfin m n k s).d ∧ 2 * (wfin m n k s).i = (wfin m n k s).d * (wfin m n k s).d - (wfin m n k s).d + 2 * (wfin m n k s).c ∧ (wfin m n k s).i ≤ n ∧ ((wfin m n k s).d < m → (wfin m n k s).i = n)
  | 0, s, h1, h2, h3, h4, h5, h6, h7 => ⟨h1, h2, h3, h4, h5, h6, fun _ => by show s.i = n; omega⟩
  | k + 1, s, h1, h2, h3, h4, h5, h6, h7 => by
    rw [wfin]
    by_cases hc : s.i < n ∧ s.d < m
    · rw [if_pos hc]
      have hsq : (s.d + 1) * (s.d + 1) = s.d * s.d + 2 * s.d + 1 := by rw [Int.add_mul, Int.mul_add]; omega
      have hn : s.next.d ≤ m ∧ 1 ≤ s.next.d ∧ 0 ≤ s.next.c ∧ s.next.c < s.next.d ∧ 2 * s.next.i = s.next.d * s.next.d - s.next.d + 2 * s.next.c ∧ s.next.i = s.i + 1 := by
        unfold WS.next
        by_cases e : s.c + 1 = s.d
        · rw [if_pos e]; dsimp only; rw [hsq]; omega
        · rw [if_neg e]; dsimp only; omega
      exact wfin_inv m n k s.next hn.2.1 hn.1 hn.2.2.1 hn.2.2.2.1 hn.2.2.2.2.1 (by omega) (by omega)
    · rw [if_neg hc]
      exact ⟨h1, h2, h3, h4, h5, h6, fun h => by omega⟩
/-- How wide it is when so many came, from one on. -/
def wideN (m n : Int) : Int := (ackedW m n 1 0).d
theorem wideN_is (m n : Int) (hm : 1 ≤ m) (hn : 0 ≤ n) : 1 ≤ wideN m n ∧ wideN m n ≤ m ∧ wideN m n * wideN m n - wideN m n ≤ 2 * n ∧ (wideN m n < m → 2 * n < wideN m n * wideN m n + wideN m n) := by
  have h := wfin_inv m n n.toNat ⟨1, 0, 0⟩ (by simp) hm (by simp) (by simp) (by simp) hn (by simp; omega)
  unfold wideN ackedW
  obtain ⟨a, b, c, d, e, f, g⟩ := h
  refine ⟨a, b, by omega, fun hl => ?_⟩
  have := g hl
  omega

theorem r_8_29 : rowsM 8 29 = ⟨[29, 14, 32, 34], 11, true⟩ := by kernel_rfl
theorem r_11_21 : rowsM 11 21 = ⟨[20, 19, 22, 33, 31], 8, true⟩ := by kernel_rfl
/-- So long yet. -/
def tkM (c : CM) (l : List (List Int)) (o : Nat) (v : Int) : TM := { queM c 1 false l o with tm := [(29, v)] }
def pollM (c : CM) (l : List (List Int)) (o : Nat) : TM := { queM c 1 false l o with state := 11, retries := 1, wide := 1, count := 0, tm := [(30, c.po)] }
def pollD : PD := ⟨8, 4, false, 1, 0, 0, 0, true, []⟩
def ansD (g : Int) : PD := ⟨4, 8, true, 1, 0, 0, g, true, []⟩
theorem que_tk (c : CM) (l : List (List Int)) (o : Nat) (h : o ≠ 0) : queM c 1 false l o = tkM c l o c.ak := by
  unfold tkM queM
  rw [if_neg h]
theorem tk_1 (c : CM) (l : List (List Int)) (o : Nat) (v : Int) (h : 2 ≤ v) : tickM (tkM c l o v) = tkM c l o (v - 1) := by
  have e : (v == 1) = false := by rw [beq_eq_false_iff_ne]; omega
  rw [tickM_none (show tover [(29, v)] = [] by simp [tover, e])]
  have e2 : (v != 1) = true := by simp [bne, e]
  show { tkM c l o v with poll := false, num := 0, tm := trest [(29, v)] } = _
  rw [show trest [(29, v)] = [(29, v - 1)] by simp [trest, e2]]
  rfl
theorem tk_2 (c : CM) (l : List (List Int)) (o : Nat) (h : 0 < c.tr) : tickM (tkM c l o 1) = { pollM c l o with send := [pollD] } := by
  rw [tickM_one (show tover [(29, (1 : Int))] = [29] from rfl)]
  refine (tickE_go (e := 29) (r := ⟨[29, 14, 32, 34], 11, true⟩) ?_ rfl ?_).trans rfl
  · exact r_8_29
  · exact h
theorem tk_ok (c : CM) (l : List (List Int)) (o : Nat) (v : Int) (hv : 1 ≤ v) : tickOk (tkM c l o v) := by
  intro q hq
  by_cases e1 : v = 1
  · subst e1
    have h1 : tover (tkM c l o 1).tm = [29] := rfl
    have hq0 : q = 0 := by rw [h1] at hq; simp at hq; exact hq
    subst hq0
    rfl
  · have : tover (tkM c l o v).tm = [] := by show tover [(29, v)] = []; simp [tover, show (v == 1) = false by rw [beq_eq_false_iff_ne]; exact e1]
    rw [this] at hq; simp at hq
theorem tk_inv (c : CM) (l : List (List Int)) (o : Nat) (v : Int) (h : c.ok) (hl : l.length ≤ 64) (ho : o ≤ l.length) (hw : (o : Int) ≤ c.wd) (hx : ∀ x ∈ l, x.length ≤ 1024) (hv : 1 ≤ v ∧ v ≤ 10000) : Inv 1000 0 (tkM c l o v) :=
  { queM_inv c 1 false l o h (by omega) hl ho hw hx with tm := ⟨by simp [tkM], fun x hx => by simp [tkM] at hx; subst hx; dsimp only; omega⟩ }
theorem poll_inv (c : CM) (l : List (List Int)) (o : Nat) (h : c.ok) (hl : l.length ≤ 64) (ho : o ≤ l.length) (hw : (o : Int) ≤ c.wd) (hx : ∀ x ∈ l, x.length ≤ 1024) : Inv 1000 0 (pollM c l o) :=
  { queM_inv c 1 false l o h (by omega) hl ho hw hx with st := (by show (0 : Int) ≤ 11 ∧ (11 : Int) < 14; omega), retries := (by show (0 : Int) ≤ 1 ∧ (1 : Int) ≤ (1000 : Nat); omega), wide := (by have : 1 ≤ c.wd := by { unfold CM.ok at h; omega }; show (1 : Int) ≤ 1 ∧ (1 : Int) ≤ c.wd ∧ (0 : Int) ≤ 0 ∧ (0 : Int) < 1; omega), tm := ⟨by simp [pollM], fun x hx => by have : 1 ≤ c.po ∧ c.po ≤ 10000 := by { unfold CM.ok tick at h; omega }; simp [pollM] at hx; subst hx; dsimp only; omega⟩ }
theorem ans_typ : ∀ g : Nat, g < 31 → typM (ansD (g : Int)) = 2 := by decide +kernel
theorem ans_E (c : CM) (l : List (List Int)) (o g : Nat) (hg : g ≤ o) (ho : o ≤ 30) : hearE (pollM c l o) (ansD (g : Int)) = 21 := by
  have ht := ans_typ g (by omega)
  unfold hearE evtM
  have hw : wrongM (ansD (g : Int)) (pollM c l o).va (pollM c l o).vs = false := by
    have h1 : ((g : Int) - 0) % 128 ≤ ((o : Int) - 0) % 128 := by omega
    unfold wrongM
    show (decide ((1 : Int) ≠ 2) && !decide (((g : Int) - 0) % 128 ≤ ((o : Int) - 0) % 128)) = false
    rw [decide_eq_true h1]; rfl
  rw [hw, ht]
  rfl
/-- Acknowledged, gone back to there, not yet sent again. -/
def bM (c : CM) (l : List (List Int)) (g : Nat) (W C : Int) : TM := { queM c 1 true (l.drop g) 0 with state := 11, vs := (g : Int), va := (g : Int), wide := W, count := C, p := some (ansD (g : Int)), tm := [] }
theorem ans_hear (c : CM) (h : c.ok) (l : List (List Int)) (o g : Nat) (hg : g ≤ o) (ho : o ≤ 30) : ∃ C, hearM (pollM c l o) (ansD (g : Int)) = { pushM (bM c l g (wideN c.wd g) C) with state := 8 } := by
  have e1 := ans_E c l o g hg ho
  have e2 : hearN (pollM c l o) (ansD (g : Int)) = 0 := by unfold hearN; rw [e1]; rfl
  have e3 : hearB (pollM c l o) (ansD (g : Int)) = beginM (pollM c l o) (some (ansD (g : Int))) true 0 := by unfold hearB; rw [e1]; rfl
  have e4 : hearR (pollM c l o) (ansD (g : Int)) = (false, beginM (pollM c l o) (some (ansD (g : Int))) true 0) := by
    unfold hearR numberedM
    rw [e1, e2, e3]
    rfl
  have ea : ackN (o : Int) 0 (g : Int) = g := by unfold ackN; rw [if_pos (by omega)]; omega
  have eb : ackA (o : Int) 0 (g : Int) = g := by unfold ackA; rw [if_pos (by omega)]
  unfold hearM
  rw [e4, if_neg (fun h => by cases h), e1]
  refine ⟨(ackedW c.wd g 1 0).c, ?_⟩
  show evM (rowsM 11 21) _ = _
  rw [r_11_21]
  show { pushM (zeroM (goBackM (ackM (peerM (beginM (pollM c l o) (some (ansD (g : Int))) true 0) false)))) with state := 8 } = _
  have key : zeroM (goBackM (ackM (peerM (beginM (pollM c l o) (some (ansD (g : Int))) true 0) false))) = bM c l g (wideN c.wd g) (ackedW c.wd g 1 0).c := by
    have hp : peerM (beginM (pollM c l o) (some (ansD (g : Int))) true 0) false = { pollM c l o with poll := true, p := some (ansD (g : Int)) } := rfl
    rw [hp]
    unfold ackM
    show zeroM (goBackM (if ackN (o : Int) 0 (g : Int) < 1 then _ else _)) = _
    dsimp only
    show zeroM (goBackM (if ackN (o : Int) 0 (g : Int) < 1 then { ({ pollM c l o with poll := true, p := some (ansD (g : Int)) } : TM) with va := ackA (o : Int) 0 (g : Int) } else if 0 < ((o : Int) - (g : Int)) % 128 then startM (ackedM { pollM c l o with poll := true, p := some (ansD (g : Int)) } (g : Int) (ackN (o : Int) 0 (g : Int)).toNat) 29 else ackedM { pollM c l o with poll := true, p := some (ansD (g : Int)) } (g : Int) (ackN (o : Int) 0 (g : Int)).toNat)) = _
    rw [ea, eb, Int.toNat_natCast]
    by_cases h0 : (g : Int) < 1
    · have : g = 0 := by omega
      subst this
      rw [if_pos h0]
      rfl
    · rw [if_neg h0]
      by_cases h1 : 0 < ((o : Int) - (g : Int)) % 128
      · rw [if_pos h1]; rfl
      · rw [if_neg h1]; rfl
  rw [key]
theorem pushL_go : ∀ (j : Nat) (m : TM), m.busy = false → (m.vs - m.va) % 128 = (m.out : Int) → 0 ≤ m.vs ∧ m.vs < 128 → m.out ≤ m.q.length → j = m.q.length - m.out → m.q.length ≤ 64 →
    (pushL j m).send = m.send ++ (List.range (min (m.q.length - m.out) (m.wide - m.out).toNat)).map (fun x => (⟨m.there, m.near, false, 0, 0, (m.va + (m.out + x : Nat)) % 128, m.vr, false, m.q.getD (m.out + x) []⟩ : PD)) ∧ (pushL j m).wide = m.wide ∧ (pushL j m).retries = m.retries := by
  intro j
  induction j with
  | zero =>
    intro m hb hd hv ho hj hq
    rw [show m.q.length - m.out = 0 by omega, Nat.zero_min]
    exact ⟨by simp [pushL], rfl, rfl⟩
  | succ j ih =>
    intro m hb hd hv ho hj hq
    rw [pushL]
    by_cases hc : mayPush m
    · rw [if_pos hc]
      obtain ⟨-, h2, h3⟩ := hc
      rw [hd] at h2
      have hd' : ((pushS m).vs - (pushS m).va) % 128 = ((pushS m).out : Int) := by
        show ((m.vs + 1) % 128 - m.va) % 128 = ((m.out + 1 : Nat) : Int)
        push_cast; omega
      obtain ⟨k1, k2, k3⟩ := ih (pushS m) hb hd' (by show 0 ≤ (m.vs + 1) % 128 ∧ (m.vs + 1) % 128 < 128; omega) (by show m.out + 1 ≤ m.q.length; omega) (by show j = m.q.length - (m.out + 1); omega) hq
      refine ⟨?_, k2, k3⟩
      rw [k1]
      show (m.send ++ [_]) ++ (List.range (min (m.q.length - (m.out + 1)) (m.wide - ((m.out + 1 : Nat) : Int)).toNat)).map _ = _
      rw [show min (m.q.length - m.out) (m.wide - m.out).toNat = min (m.q.length - (m.out + 1)) (m.wide - ((m.out + 1 : Nat) : Int)).toNat + 1 by push_cast; omega, List.range_succ_eq_map, List.map_cons, List.append_assoc, List.singleton_append, List.map_map]
      congr 1
      congr 1
      · show PD.mk _ _ _ _ _ _ _ _ _ = PD.mk _ _ _ _ _ _ _ _ _
        have : (m.va + ((m.out + 0 : Nat) : Int)) % 128 = m.vs := by push_cast; omega
        rw [this]
        rfl
      · apply List.map_congr_left
        intro x _
        show PD.mk _ _ _ _ _ _ _ _ _ = PD.mk _ _ _ _ _ _ _ _ _
        show (⟨m.there, m.near, false, 0, 0, (m.va + ((m.out + 1 + x : Nat) : Int)) % 128, m.vr, false, m.q.getD (m.out + 1 + x) []⟩ : PD) = ⟨m.there, m.near, false, 0, 0, (m.va + ((m.out + (x + 1) : Nat) : Int)) % 128, m.vr, false, m.q.getD (m.out + (x + 1)) []⟩
        rw [show m.out + 1 + x = m.out + (x + 1) by omega]
    · rw [if_neg hc]
      have : (m.wide - m.out).toNat = 0 := by
        have h3 : ¬ (m.vs - m.va) % 128 < m.wide := fun h => hc ⟨hb, h, by omega⟩
        rw [hd] at h3
        omega
      rw [this, Nat.min_zero]
      exact ⟨by simp, rfl, rfl⟩
end Go.Proofs.YtneggoonlmmjeaaGreat
namespace Go.Proofs.YtneggoonlmmjeaaGreat
open Go.RowKit Go.Shelf
set_option linter.unusedVariables false
set_option linter.unusedSimpArgs false
set_option maxRecDepth 100000

theorem Ints.at_ {k : IntKind} {w : World} {s : Sl} {l : List Int} (h : Ints k w s.v l) (i : Nat) (hi : i < l.length) : ∃ b off, s.A = some ⟨b, off, none⟩ ∧ w.cell? ⟨b, off + i, none⟩ = some (.int k l[i]) := by
  rcases h with ⟨e, rfl⟩ | ⟨A, cap, e, hA⟩
  · simp at hi
  · obtain ⟨b, off, x, eA, hc, -, rfl⟩ := hA.at_ i hi
    cases eA
    cases s
    simp only [Sl.v, Value.slice.injEq] at e
    exact ⟨b, off, e.1, hc⟩

theorem r_Same (w : World) (a b : Sl) (la lb : List Int) (ha : Ints .u8 w a.v la) (hb : Ints .u8 w b.v lb) (hn : la.length ≤ 100000) :
    Calls Tryz.prog 36 #[.slice a.A a.n a.c, .slice b.A b.n b.c] w fun e w' => e = .returned (.bool (la == lb)) ∧ Fr [] w w' := by
  have na := ha.n_
  have nb := hb.n_
  by_cases hl : la.length = lb.length
  · have d1 : ((la.length : Int) != (lb.length : Int)) = false := by simp [hl]
    rw [na, nb]
    go_enter Tryz.func36, Tryz.ntmps36
    clear na nb
    have HL := Lib.hid hl
    clear hl
    go_wp2
    go_loopw [5] (fun i wr => ∃ k : Nat, i = .int .i64 k ∧ k ≤ la.length ∧ la.take k = lb.take k ∧ Fr [] w wr) (fun i _ => la.length - (intOf i).toNat)
    case atStart => exact ⟨0, rfl, by omega, rfl, Fr.refl _ _⟩
    case round =>
      obtain ⟨k, rfl, hk, ht, hf⟩ := hrel
      have HT := Lib.hid ht
      clear ht
      by_cases hlt : k < la.length
      · have d2 : decide ((k : Int) < (la.length : Int)) = true := by simp; omega
        have hlb : k < lb.length := by rw [← HL.out]; exact hlt
        obtain ⟨b1, o1, e1, c1⟩ := (ha.fr hf).at_ k hlt
        obtain ⟨b2, o2, e2, c2⟩ := (hb.fr hf).at_ k hlb
        have i1 : decide ((k : Int) < (lb.length : Int)) = true := by simp; omega
        obtain ⟨x, hx⟩ : ∃ x, la[k] = x := ⟨_, rfl⟩
        obtain ⟨y, hy⟩ : ∃ y, lb[k] = y := ⟨_, rfl⟩
        rw [hx] at c1
        rw [hy] at c2
        have HX := Lib.hid hx
        have HY := Lib.hid hy
        clear hx hy
        by_cases hxy : x = y
        · subst hxy
          go_wp2
          go_quiet (fail)
          go_wp2
          go_roundw
          case rel => exact ⟨k + 1, by simp, by omega, by rw [← List.take_append_getElem hlt, ← List.take_append_getElem hlb, HT.out, HX.out, HY.out], hf.drewN _⟩
          case measure => simp [intOf]; omega
        · have d3 : (x != y) = true := by simpa using hxy
          go_wp2
          go_quiet (fail)
          go_wp2
          go_ret
          have : (la == lb) = false := by
            rw [beq_eq_false_iff_ne]
            intro e
            apply hxy
            have h1 : la[k]? = lb[k]? := by rw [e]
            rw [List.getElem?_eq_getElem hlt, List.getElem?_eq_getElem hlb] at h1
            simpa [HX.out, HY.out] using h1
          rw [this]
          exact ⟨rfl, hf.drewN _⟩
      · have d2 : decide ((k : Int) < (la.length : Int)) = false := by simp; omega
        go_wp2
        go_ret
        have : la = lb := by
          have h1 := HT.out
          rwa [List.take_of_length_le (by omega), List.take_of_length_le (by rw [← HL.out]; omega)] at h1
        rw [this]
        exact ⟨by simp, hf⟩
  · have d1 : ((la.length : Int) != (lb.length : Int)) = true := by simp; omega
    have hne : (la == lb) = false := by rw [beq_eq_false_iff_ne]; intro e; exact hl (by rw [e])
    rw [na, nb, hne]
    clear na nb hl hne
    go_enter Tryz.func36, Tryz.ntmps36
    go_wp2
    go_ret
    exact ⟨rfl, Fr.refl _ _⟩


theorem cfg_cells {w : World} {C : Nat} {c : CM} {t : TypeId} (h : Blk w C #[.int .i64 c.wd, .int .i64 c.tr, .int .i64 c.ak, .int .i64 c.po, .int .i64 c.re, .int .i64 c.bu] t) :
    w.cell? ⟨C, 0, none⟩ = some (.int .i64 c.wd) ∧ w.cell? ⟨C, 1, none⟩ = some (.int .i64 c.tr) ∧ w.cell? ⟨C, 2, none⟩ = some (.int .i64 c.ak) ∧ w.cell? ⟨C, 3, none⟩ = some (.int .i64 c.po) ∧ w.cell? ⟨C, 4, none⟩ = some (.int .i64 c.re) ∧ w.cell? ⟨C, 5, none⟩ = some (.int .i64 c.bu) :=
  ⟨h.cell 0 rfl, h.cell 1 rfl, h.cell 2 rfl, h.cell 3 rfl, h.cell 4 rfl, h.cell 5 rfl⟩
theorem out_store {w : World} {P : Nat} {cs : Array Value} (hcs : cs.size = 4) (h : Blk w P cs 36) (a b c d : Value) :
    Blk ((((w.setCell ⟨P, 0, none⟩ a).setCell ⟨P, 1, none⟩ b).setCell ⟨P, 2, none⟩ c).setCell ⟨P, 3, none⟩ d) P #[a, b, c, d] 36 ∧ Fr [P] w ((((w.setCell ⟨P, 0, none⟩ a).setCell ⟨P, 1, none⟩ b).setCell ⟨P, 2, none⟩ c).setCell ⟨P, 3, none⟩ d) := by
  obtain ⟨l⟩ := cs
  match l, hcs with
  | [z0, z1, z2, z3], _ =>
    exact ⟨Blk.set (Blk.set (Blk.set (Blk.set h 0 a rfl) 1 b rfl) 2 c rfl) 3 d rfl, ((((Fr.refl [P] w).setCell (p := ⟨P, 0, none⟩) a (.inl (by simp))).setCell (p := ⟨P, 1, none⟩) b (.inl (by simp))).setCell (p := ⟨P, 2, none⟩) c (.inl (by simp))).setCell (p := ⟨P, 3, none⟩) d (.inl (by simp))⟩
theorem OwnT.store {w0 w wS : World} {t P : Nat} {v : TV} {m : TM} {cs : Array Value} (h : OwnT w0 w t v m) (f : Fr [P] w wS) (hb : Blk w P cs 36) (off : P ∉ v.foot) (hi : v.hi ≤ P) (hp : v.pp = .pointer none) (hw : w0.heap.size ≤ P) : OwnT w0 wS t v m :=
  ⟨h.is.frL f (fun x hx => by simp at hx; subst hx; exact off) (fun x hx => by simp at hx; subst hx; exact hi) (TyOut.cons hb (by decide) (TyOut.nil _ _)) (fun x hx => by rw [hp]; simp), h.t, h.n0, h.fr.trans f (fun x hx => .inr (by simp at hx; subst hx; exact hw))⟩
theorem cells4 {w : World} {P : Nat} {cs : Array Value} {ty : TypeId} (hcs : cs.size = 4) (h : Blk w P cs ty) : ∃ z0 z1 z2 z3, w.cell? ⟨P, 0, none⟩ = some z0 ∧ w.cell? ⟨P, 1, none⟩ = some z1 ∧ w.cell? ⟨P, 2, none⟩ = some z2 ∧ w.cell? ⟨P, 3, none⟩ = some z3 := by
  obtain ⟨l⟩ := cs
  match l, hcs with
  | [z0, z1, z2, z3], _ => exact ⟨z0, z1, z2, z3, h.cell 0 rfl, h.cell 1 rfl, h.cell 2 rfl, h.cell 3 rfl⟩
def bytesL (k : Nat) : List (List Int) := (List.range k).map (fun (i : Nat) => [(i : Int)])
theorem bytesL_len (k : Nat) : (bytesL k).length = k := by simp [bytesL]
theorem bytesL_succ (k : Nat) : bytesL (k + 1) = bytesL k ++ [[(k : Int)]] := by simp [bytesL, List.range_succ]
theorem bytesL_x (k : Nat) : ∀ x ∈ bytesL k, x.length ≤ 1024 := by
  intro x hx
  simp only [bytesL, List.mem_map] at hx
  obtain ⟨i, -, rfl⟩ := hx
  simp
theorem bytesL_getD (k i : Nat) (h : i < k) : (bytesL k).getD i [] = [(i : Int)] := by
  simp [bytesL, List.getD_eq_getElem?_getD, h]
/-- What goes again. -/
def againL (g N : Nat) : List PD := (List.range N).map fun (x : Nat) => (⟨8, 4, false, 0, 0, ((g + x : Nat) : Int), 0, false, [((g + x : Nat) : Int)]⟩ : PD)
theorem againL_at (g N i : Nat) (h : i < N) : (againL g N)[i]? = some ⟨8, 4, false, 0, 0, ((g + i : Nat) : Int), 0, false, [((g + i : Nat) : Int)]⟩ := by
  simp [againL, h]
theorem ans_facts (c : CM) (k g : Nat) (W C : Int) (hk : k ≤ 30) (hg : g ≤ k) :
    ({ pushM (bM c (bytesL k) g W C) with state := 8 } : TM).send = againL g (min (k - g) W.toNat) ∧ ({ pushM (bM c (bytesL k) g W C) with state := 8 } : TM).wide = W ∧ ({ pushM (bM c (bytesL k) g W C) with state := 8 } : TM).retries = 0 := by
  have hl : (bM c (bytesL k) g W C).q.length = k - g := by show ((bytesL k).drop g).length = _; rw [List.length_drop, bytesL_len]
  have h := pushL_go ((bM c (bytesL k) g W C).q.length - (bM c (bytesL k) g W C).out) (bM c (bytesL k) g W C) rfl (by show ((g : Int) - (g : Int)) % 128 = 0; omega) (by show (0 : Int) ≤ (g : Int) ∧ (g : Int) < 128; omega) (Nat.zero_le _) rfl (by rw [hl]; omega)
  have key : (pushM (bM c (bytesL k) g W C)).send = (pushL ((bM c (bytesL k) g W C).q.length - (bM c (bytesL k) g W C).out) (bM c (bytesL k) g W C)).send ∧ (pushM (bM c (bytesL k) g W C)).wide = (pushL ((bM c (bytesL k) g W C).q.length - (bM c (bytesL k) g W C).out) (bM c (bytesL k) g W C)).wide ∧ (pushM (bM c (bytesL k) g W C)).retries = (pushL ((bM c (bytesL k) g W C).q.length - (bM c (bytesL k) g W C).out) (bM c (bytesL k) g W C)).retries := by
    unfold pushM
    dsimp only
    split <;> exact ⟨rfl, rfl, rfl⟩
  refine ⟨?_, key.2.1.trans h.2.1, key.2.2.trans h.2.2⟩
  show (pushM (bM c (bytesL k) g W C)).send = _
  rw [key.1, h.1, hl]
  show [] ++ (List.range (min (k - g - 0) (W - 0).toNat)).map _ = _
  rw [List.nil_append, Nat.sub_zero, Int.sub_zero]
  unfold againL
  apply List.map_congr_left
  intro x hx
  have hx : x < min (k - g) W.toNat := by simpa using hx
  show (⟨8, 4, false, 0, 0, ((g : Int) + ((0 + x : Nat) : Int)) % 128, 0, false, ((bytesL k).drop g).getD (0 + x) []⟩ : PD) = _
  have e1 : ((g : Int) + ((0 + x : Nat) : Int)) % 128 = ((g + x : Nat) : Int) := by push_cast; omega
  have e2 : ((bytesL k).drop g).getD (0 + x) [] = [((g + x : Nat) : Int)] := by
    rw [Nat.zero_add, List.getD_eq_getElem?_getD, List.getElem?_drop, ← List.getD_eq_getElem?_getD, bytesL_getD k (g + x) (by omega)]
  rw [e1, e2]
theorem even_tri (X : Int) : X * (X + 1) % 2 = 0 := by
  rcases (show X = 2 * (X / 2) ∨ X + 1 = 2 * (X / 2 + 1) by omega) with h | h
  · have : X * (X + 1) = 2 * (X / 2 * (X + 1)) := by rw [← Int.mul_assoc, ← h]
    omega
  · have : X * (X + 1) = 2 * (X * (X / 2 + 1)) := by rw [Int.mul_left_comm, ← h]
    omega
theorem que_sendlen (c : CM) (h : c.ok) (n : Int) (b : Bool) (l : List (List Int)) (x : List Int) : (outN c l.length : Int) + ((sentM (queM c n b l (outN c l.length)) x).send.length : Int) = outN c (l.length + 1) := by
  have hw : 1 ≤ c.wd ∧ c.wd ≤ 64 := by unfold CM.ok at h; omega
  by_cases hk : (l.length : Int) < c.wd
  · rw [show outN c l.length = l.length by unfold outN; omega, show outN c (l.length + 1) = l.length + 1 by unfold outN; omega, que_sent1 c h n b l x hk]
    rfl
  · have e1 : ((outN c l.length : Nat) : Int) = c.wd := by unfold outN; omega
    rw [show outN c (l.length + 1) = outN c l.length by unfold outN; omega, que_sent0 c h n b l _ x e1]
    show _ + ((0 : Nat) : Int) = _
    omega
theorem many_k (m : Int) (h : (Lit.int .u8 m).wf = true) : ∃ K : Nat, (K : Int) = 1 + m % 30 ∧ 1 ≤ K ∧ K ≤ 30 ∧ 0 ≤ m ∧ m ≤ 255 := by
  have h2 : 0 ≤ m ∧ m ≤ 255 := by
    simp only [Lit.wf, IntKind.min, IntKind.max, IntKind.signed, IntKind.bits, Bool.and_eq_true, decide_eq_true_eq] at h
    simpa using h
  exact ⟨(1 + m % 30).toNat, by omega, by omega, by omega, h2⟩
set_option maxHeartbeats 8000000 in
theorem walk_TieWindow (w : World) (n : Int) (hn : (Lit.int .i64 n).wf = true) (many : Int) (hmany : (Lit.int .u8 many).wf = true) (came : Int) (hcame : (Lit.int .u8 came).wf = true) :
    Calls Tryz.prog 9 #[.int .i64 n, .int .u8 many, .int .u8 came] w fun e w' => e = .returned (.bool true) ∧ Fr [] w w' := by
  obtain ⟨K, hK, hK1, hK2, hm0, hm1⟩ := many_k many hmany
  obtain ⟨KI, hKI⟩ : ∃ KI : Int, (K : Int) = KI := ⟨_, rfl⟩
  rw [hKI] at hK
  obtain ⟨-, -, -, -, hc0, hc1⟩ := many_k came hcame
  have ww1 : IntKind.i64.wrap many = many := IntWalk.i64_in _ (by omega)
  have ww2 : many.tmod 30 = many % 30 := Int.tmod_eq_emod_of_nonneg hm0
  have ww3 : IntKind.i64.wrap (1 + many % 30) = KI := by rw [← hK]; exact IntWalk.i64_in _ (by omega)
  have ww4 : IntKind.i64.wrap (many % 30) = many % 30 := IntWalk.i64_in _ (by omega)
  have HK := Lib.hid (And.intro hK1 (And.intro hK2 (And.intro hc0 (And.intro hc1 hKI))))
  clear hK hmany hcame hm0 hm1 hK1 hK2 hc0 hc1 hKI
  go_enter Tryz.func9, Tryz.ntmps9
  go_wp2_with fail
  refine (law19_awake w).mono ?_
  rintro e w1 ⟨rfl, f1⟩
  have F1 := Lib.hid f1
  clear f1
  go_wp2_with fail
  refine (law19_Made n w1).mono ?_
  rintro e w2 ⟨rfl, f2⟩
  have HOK := Lib.hid (madeM_ok n)
  obtain ⟨c, hc⟩ : ∃ c, madeM n = c := ⟨_, rfl⟩
  rw [hc] at HOK
  simp only [hc]
  clear hc
  have bC := Blk.new w2 #[.int .i64 c.wd, .int .i64 c.tr, .int .i64 c.ak, .int .i64 c.po, .int .i64 c.re, .int .i64 c.bu] 24
  have fC := (Fr.refl [] w2).alloc (.cells #[.int .i64 c.wd, .int .i64 c.tr, .int .i64 c.ak, .int .i64 c.po, .int .i64 c.re, .int .i64 c.bu] 24)
  have HC := Lib.hid (And.intro bC (F1.out.tr (f2.tr fC)))
  obtain ⟨cc0, cc1, cc2, cc3, cc4, cc5⟩ := cfg_cells bC
  clear bC fC f2
  go_wp2_with fail
  refine (law19_Config c _).mono ?_
  rintro e w3 ⟨rfl, f3⟩
  have hnew := OwnT.newC HOK.out (Fr.refl [] w3)
  have HC3 := Lib.hid (And.intro (HC.out.1.fr f3 (by simp)) (HC.out.2.tr f3))
  clear f3 cc0 cc1 cc2 cc3 cc4 cc5 HC
  obtain ⟨C, hC⟩ : ∃ C, w2.heap.size = C := ⟨_, rfl⟩
  simp only [hC] at HC3 ⊢
  clear hC
  go_wp2_with fail
  refine hnew.mono ?_
  rintro e w8 ⟨t, v, rfl, o8⟩
  clear hnew
  have hdo := o8.doC 0 1 0 0 (newM_inv c 4 8 HOK.out) (by omega) (by omega) (by omega) (by omega)
  rw [ask_0] at hdo
  clear o8
  go_wp2_with fail
  refine hdo.mono ?_
  rintro e w11 ⟨x11, v11, rfl, -, o11, -⟩
  rw [ask_clear] at o11
  clear hdo
  have b14 := bts_new w11 [0, 0, 0, 1] #[.int .u8 0, .int .u8 0, .int .u8 0, .int .u8 1] 4 rfl rfl (by decide)
  have f14 := (Fr.refl [] w11).alloc (.cells #[.int .u8 0, .int .u8 0, .int .u8 0, .int .u8 1] 5)
  have hh := (o11.fr0 f14).hearC (uaD [0, 0, 0, 1]) _ (.int .i64 2) 1000 0 (askM'_inv c 1 0 c.ak true HOK.out (by omega) (by omega) (CM.ak_ok HOK.out)) ⟨rfl, rfl, rfl⟩ b14 (by intro x hx; simp [uaD] at hx; omega) rfl (by omega)
  rw [hear_up c 1 0 c.ak true 0 0 0 1 rfl] at hh
  clear b14 f14 o11
  go_wp2_with fail
  refine hh.mono ?_
  rintro e w15 ⟨x15, v15, rfl, -, o15, -⟩
  rw [r_ua1] at o15
  have H15 := Lib.hid o15
  clear hh o15
  go_wp2
  go_loopw [11, 12] (fun sm i wr => ∃ (b : Bool) (k : Nat) (v' : TV), sm = .int .i64 (outN c k : Int) ∧ i = .int .i64 (k : Int) ∧ k ≤ K ∧ (k = 0 ∨ b = false) ∧ OwnT w3 wr t v' (queM c 1 b (bytesL k) (outN c (bytesL k).length))) (fun _ i _ => (K - intOf i).toNat)
  case atStart => exact ⟨true, 0, v15, by simp [outN], rfl, by omega, .inl rfl, H15.out⟩
  case round =>
    obtain ⟨b, k, v', rfl, rfl, hk, hb, o'⟩ := hrel
    have HI := Lib.hid (que_inv c HOK.out 1 (by omega) b (bytesL k) (by rw [bytesL_len]; have := HK.out; omega) (bytesL_x k))
    obtain ⟨ki, hki⟩ : ∃ ki : Int, (k : Int) = ki := ⟨_, rfl⟩
    obtain ⟨si, hsi⟩ : ∃ si : Int, (outN c k : Int) = si := ⟨_, rfl⟩
    rw [hki, hsi]
    by_cases hlt : k < K
    · have d1 : decide (ki < KI) = true := by have := HK.out.2.2.2.2; simp; omega
      have hK30 := HK.out.2.1
      have hb1 : IntKind.u8.wrap ki = ki := by unfold IntKind.wrap; simp [IntKind.bits, IntKind.signed]; omega
      have hwX : IntKind.i64.wrap (ki + 1) = ki + 1 := IntWalk.i64_in _ (by omega)
      have b8 := bts_new wr [ki] #[.int .u8 ki] 1 rfl rfl (by intro x hx; simp at hx; subst hx; exact u8_wf (by omega) (by omega)) 0
      have f8 := (Fr.refl [] wr).alloc (.cells #[.int .u8 ki] 5)
      have hs := (o'.fr0 f8).sendC _ [ki] 1000 0 HI.out b8.1 (by show (8 : Int) ≤ 8; omega) (by simp) (by show (bytesL k).length < 64; rw [bytesL_len]; omega) (by omega)
      have HLT := Lib.hid (And.intro hlt (And.intro hK30 (And.intro hk hki)))
      have hlen := que_sendlen c HOK.out 1 b (bytesL k) [ki]
      obtain ⟨M, hM⟩ : ∃ M, sentM (queM c 1 b (bytesL k) (outN c (bytesL k).length)) [ki] = M := ⟨_, rfl⟩
      have hst := que_step c HOK.out 1 b (bytesL k) [ki]
      rw [hM] at hs hlen hst
      obtain ⟨Y, hY⟩ : ∃ Y : Nat, M.send.length = Y := ⟨_, rfl⟩
      rw [hY, bytesL_len, hsi] at hlen
      obtain ⟨YI, hYI⟩ : ∃ YI : Int, (Y : Int) = YI := ⟨_, rfl⟩
      obtain ⟨s2, hs2⟩ : ∃ s2 : Int, (outN c (k + 1) : Int) = s2 := ⟨_, rfl⟩
      rw [hYI, hs2] at hlen
      have hw2 : IntKind.i64.wrap (si + YI) = s2 := by rw [hlen]; exact IntWalk.i64_in _ (by have : outN c (k + 1) ≤ k + 1 := Nat.min_le_left _ _; omega)
      have HM := Lib.hid (And.intro hst (And.intro hY (And.intro hYI hs2)))
      clear b8 f8 o' hlt hk hst hM hlen hK30 hki hsi
      go_wp2_with fail
      refine hs.mono ?_
      rintro e w16 ⟨x16, v16, rfl, ⟨ps, py, pk, -, hx, -⟩, o16, -⟩
      rw [HM.out.2.1] at hx
      subst hx
      rw [HM.out.1] at o16
      have H16 := Lib.hid o16
      clear hs o16 hY hs2
      go_wp2
      go_roundw
      case rel => exact ⟨false, k + 1, v16, by rw [HM.out.2.2.2], by rw [← HLT.out.2.2.2]; simp, by have := HLT.out; omega, .inr rfl, by rw [bytesL_succ, HLT.out.2.2.2]; exact H16.out.fr0 ((Fr.refl [] w16).alloc _)⟩
      case measure => simp [intOf]; have := HLT.out; omega
    · have hkK : k = K := by omega
      have hKI := HK.out.2.2.2.2
      have d1 : decide (ki < KI) = false := by simp; omega
      have hbf : b = false := hb.resolve_left (by have := HK.out.1; omega)
      subst hbf hkK
      have hwd : 1 ≤ c.wd ∧ c.wd ≤ 64 := by have := HOK.out; unfold CM.ok at this; omega
      have hmn : (if c.wd < KI then c.wd else KI) = si := by
        rw [← hsi]
        unfold outN
        by_cases hh : c.wd < KI
        · rw [if_pos hh]; omega
        · rw [if_neg hh]; omega
      have hss : (si != si) = false := by simp
      have hak := CM.ak_ok HOK.out
      have ho0 : outN c (bytesL k).length ≠ 0 := by rw [bytesL_len]; unfold outN; have := HK.out.1; omega
      rw [que_tk c (bytesL k) _ ho0, bytesL_len] at o'
      have hso : 1 ≤ si ∧ si ≤ KI ∧ si ≤ c.wd := by rw [← hsi, ← hKI]; unfold outN; have := HK.out.1; omega
      have HS := Lib.hid (And.intro hsi (And.intro hKI (And.intro hki (And.intro hwd (And.intro hak hso)))))
      obtain ⟨cc0, cc1, cc2, cc3, cc4, cc5⟩ := cfg_cells (HC3.out.1.fr o'.fr (by simp))
      have hile := o'.is.hile
      have hsz3 := o'.fr.size
      have A1 := Aside.new o' #[.slice none 0 0, .slice none 0 0, .slice none 0 0, .bool false] 36
      have f1 := (Fr.refl [] wr).alloc (.cells #[.slice none 0 0, .slice none 0 0, .slice none 0 0, .bool false] 36)
      have H1 := Lib.hid (And.intro A1 (o'.fr0 f1))
      clear A1 f1 o' hk hlt hb hsi hKI hki hwd hak hso ho0 HI
      obtain ⟨P, hP⟩ : ∃ P, wr.heap.size = P := ⟨_, rfl⟩
      rw [hP] at H1
      have HP := Lib.hid hP
      have HPS := Lib.hid (show v'.hi ≤ P ∧ w3.heap.size ≤ P by rw [← hP]; exact ⟨hile, hsz3⟩)
      clear hile hsz3
      clear hP
      go_wp2
      rw [HP.out]
      clear HP cc0 cc1 cc2 cc3 cc4 cc5 hmn d1
      go_loopw [16] (fun i wr => ∃ (j : Nat) (v' : TV) (cs : Array Value), i = .int .i64 (j : Int) ∧ cs.size = 4 ∧ (Blk wr P cs 36 ∧ P ∉ v'.foot ∧ v'.hi ≤ P) ∧ (((j : Int) < c.ak ∧ OwnT w3 wr t v' (tkM c (bytesL k) (outN c k) (c.ak - j))) ∨ ((j : Int) = c.ak ∧ OwnT w3 wr t v' (pollM c (bytesL k) (outN c k)) ∧ ∃ os oy ok : Sl, cs = #[.slice os.A 1 os.c, .slice oy.A 0 oy.c, .slice ok.A 0 ok.c, .bool false] ∧ PRow 0 0 os [pollD] wr))) (fun i _ => (c.ak - intOf i).toNat)
      case atStart => exact ⟨0, v', _, rfl, rfl, ⟨H1.out.1.blk, H1.out.1.off, HPS.out.1⟩, .inl ⟨by have := HS.out; omega, by simpa using H1.out.2⟩⟩
      case round =>
        obtain ⟨j, v2, cs, rfl, hcs, ⟨A2, A2o, A2h⟩, hj⟩ := hrel
        obtain ⟨ji, hji⟩ : ∃ ji : Int, (j : Int) = ji := ⟨_, rfl⟩
        rw [hji]
        rw [hji] at hj
        rcases hj with ⟨hlt, o2⟩ | ⟨heq, o2, os, oy, ok, rfl, hrow⟩
        · have d1 : decide (ji < c.ak) = true := by simpa using hlt
          have hwX : IntKind.i64.wrap (ji + 1) = ji + 1 := IntWalk.i64_in _ (by have := HS.out; omega)
          obtain ⟨cc0, cc1, cc2, cc3, cc4, cc5⟩ := cfg_cells (HC3.out.1.fr o2.fr (by simp))
          have hi := tk_inv c (bytesL k) (outN c k) (c.ak - ji) HOK.out (by rw [bytesL_len]; have := HK.out; omega) (by rw [bytesL_len]; exact Nat.min_le_left _ _) (by have := HS.out; omega) (bytesL_x k) (by have := HS.out; omega)
          have hti := tie_Tick wr v2 _ 1000 0 (.int .i64 2) o2.is hi (tk_ok c (bytesL k) (outN c k) (c.ak - ji) (by omega)) (by omega)
          rw [o2.t] at hti
          rcases (show ji + 1 < c.ak ∨ ji + 1 = c.ak by omega) with hu | hu
          · rw [tk_1 c (bytesL k) (outN c k) (c.ak - ji) (by omega)] at hti
            have H2 := Lib.hid (And.intro o2 (And.intro A2 (And.intro A2o (And.intro A2h (And.intro hcs (And.intro hlt (And.intro hji hu)))))))
            clear o2 A2 A2o A2h hcs hlt hji hu hi
            go_wp2_with fail
            refine hti.mono ?_
            rintro e w10 ⟨x10, v10, rfl, ⟨os, oy, ok, -, hx, -, -, -, hrow, -, -⟩, i10, T10⟩
            have hx : x10 = .agg #[.slice os.A 0 os.c, .slice oy.A 0 oy.c, .slice ok.A 0 ok.c, .bool false] := hx
            subst hx
            have o10 := H2.out.1.step T10 i10
            have b10 := H2.out.2.1.fr T10.fr H2.out.2.2.1
            have n10 : P ∉ v10.foot := fun hm => by
              rcases T10.new P hm with h1 | h1
              · exact H2.out.2.2.1 h1
              · have := H2.out.2.1.lt; omega
            have g10 : v10.hi ≤ P := by rw [T10.hi]; exact H2.out.2.2.2.1
            obtain ⟨z0, z1, z2, z3, y0, y1, y2, y3⟩ := cells4 H2.out.2.2.2.2.1 b10
            have x0 := b10.free 0
            have x1 := b10.free 1
            have x2 := b10.free 2
            have x3 := b10.free 3
            obtain ⟨bS, fS⟩ := out_store H2.out.2.2.2.2.1 b10 (.slice os.A 0 os.c) (.slice oy.A 0 oy.c) (.slice ok.A 0 ok.c) (.bool false)
            have oS := o10.store fS b10 n10 g10 T10.pp HPS.out.2
            have hr10 : True := trivial
            have HS10 := Lib.hid (And.intro bS (And.intro n10 (And.intro g10 (And.intro oS hr10))))
            clear hrow hr10 o10 b10 n10 g10 bS fS oS T10 i10 hti
            go_wp2
            go_roundw
            case rel => exact ⟨j + 1, v10, _, by push_cast; rw [H2.out.2.2.2.2.2.2.1], rfl, ⟨HS10.out.1, HS10.out.2.1, HS10.out.2.2.1⟩, .inl ⟨by push_cast; have := H2.out.2.2.2.2.2.2; omega, by have := HS10.out.2.2.2.1; rw [show c.ak - ((j + 1 : Nat) : Int) = c.ak - ji - 1 by push_cast; have := H2.out.2.2.2.2.2.2.1; omega]; exact this⟩⟩
            case measure => simp [intOf]; have := H2.out.2.2.2.2.2.1; omega
          · rw [show c.ak - ji = 1 by omega, tk_2 c (bytesL k) (outN c k) (by have := HOK.out; unfold CM.ok at this; omega)] at hti
            have H2 := Lib.hid (And.intro o2 (And.intro A2 (And.intro A2o (And.intro A2h (And.intro hcs (And.intro hlt (And.intro hji hu)))))))
            clear o2 A2 A2o A2h hcs hlt hji hu hi
            go_wp2_with fail
            refine hti.mono ?_
            rintro e w10 ⟨x10, v10, rfl, ⟨os, oy, ok, -, hx, -, -, -, hrow, -, -⟩, i10, T10⟩
            have hx : x10 = .agg #[.slice os.A 1 os.c, .slice oy.A 0 oy.c, .slice ok.A 0 ok.c, .bool false] := hx
            subst hx
            have o10 := H2.out.1.step T10 i10
            have b10 := H2.out.2.1.fr T10.fr H2.out.2.2.1
            have n10 : P ∉ v10.foot := fun hm => by
              rcases T10.new P hm with h1 | h1
              · exact H2.out.2.2.1 h1
              · have := H2.out.2.1.lt; omega
            have g10 : v10.hi ≤ P := by rw [T10.hi]; exact H2.out.2.2.2.1
            obtain ⟨z0, z1, z2, z3, y0, y1, y2, y3⟩ := cells4 H2.out.2.2.2.2.1 b10
            have x0 := b10.free 0
            have x1 := b10.free 1
            have x2 := b10.free 2
            have x3 := b10.free 3
            obtain ⟨bS, fS⟩ := out_store H2.out.2.2.2.2.1 b10 (.slice os.A 1 os.c) (.slice oy.A 0 oy.c) (.slice ok.A 0 ok.c) (.bool false)
            have oS := o10.store fS b10 n10 g10 T10.pp HPS.out.2
            have hr10 : PRow 0 0 os [pollD] _ := hrow.ofTy fS (TyOut.cons b10 (by decide) (TyOut.nil _ _)) (TyOut.cons b10 (by decide) (TyOut.nil _ _))
            have HS10 := Lib.hid (And.intro bS (And.intro n10 (And.intro g10 (And.intro oS hr10))))
            clear hrow hr10 o10 b10 n10 g10 bS fS oS T10 i10 hti
            go_wp2
            go_roundw
            case rel => exact ⟨j + 1, v10, _, by push_cast; rw [H2.out.2.2.2.2.2.2.1], rfl, ⟨HS10.out.1, HS10.out.2.1, HS10.out.2.2.1⟩, .inr ⟨by push_cast; have := H2.out.2.2.2.2.2.2; omega, HS10.out.2.2.2.1, os, oy, ok, rfl, HS10.out.2.2.2.2⟩⟩
            case measure => simp [intOf]; have := H2.out.2.2.2.2.2.1; omega
        · have d1 : decide (ji < c.ak) = false := by simp; omega
          obtain ⟨cc0, cc1, cc2, cc3, cc4, cc5⟩ := cfg_cells (HC3.out.1.fr o2.fr (by simp))
          obtain ⟨b, hA, s2, s3, s4, s5, s6, s7⟩ := OutV.send (m := { pollM c (bytesL k) (outN c k) with send := [pollD] }) (F := []) (oy := oy) (ok := ok) (k := 0) (fun _ _ h => by cases h) hrow rfl (Fr.refl _ _)
          obtain ⟨oA, on, oc⟩ := os
          simp only at hA
          subst hA
          have c0 := A2.cell 0 rfl
          simp only [List.getElem_toArray, List.getElem_cons_zero, List.getElem_cons_succ] at c0
          simp only [pollD, Nat.zero_mul, Nat.zero_add] at s2 s3 s4 s5 s6 s7
          have hst := o2.stateC
          have hst : Calls Tryz.prog 18 #[.pointer (some ⟨t, 0, none⟩)] wr fun e w' => e = .returned (.int .i64 11) ∧ wr = w' := hst
          have hwi := tie_Width wr v2 _ o2.is
          rw [o2.t] at hwi
          have hwi : Calls Tryz.prog 34 #[.pointer (some ⟨t, 0, none⟩)] wr fun e w' => e = .returned (.int .i64 1) ∧ wr = w' := hwi
          have HWI := Lib.hid hwi
          have HST := Lib.hid hst
          have H2 := Lib.hid (And.intro o2 (And.intro A2 (And.intro A2o (And.intro A2h heq))))
          clear o2 A2 A2o A2h hcs heq hst hwi hrow
          go_wp2_with fail
          refine HST.out.mono ?_
          rintro e wq ⟨rfl, rfl⟩
          go_wp2_with fail
          refine HWI.out.mono ?_
          rintro e wq ⟨rfl, rfl⟩
          clear HST HWI
          obtain ⟨g, hg0⟩ : ∃ g : Nat, (g : Int) = came % (si + 1) := ⟨(came % (si + 1)).toNat, by have := HS.out; have := Int.emod_nonneg came (show si + 1 ≠ 0 by omega); omega⟩
          have hgs : (g : Int) ≤ si := by rw [hg0]; have := HS.out; have := Int.emod_lt_of_pos came (show 0 < si + 1 by omega); omega
          obtain ⟨gi, hgi⟩ : ∃ gi : Int, (g : Int) = gi := ⟨_, rfl⟩
          have hgo : g ≤ outN c k := by have := HS.out; omega
          have hok30 : outN c k ≤ k := Nat.min_le_left _ _
          have hk30 : k ≤ 30 := HK.out.2.1
          have wc1 : IntKind.i64.wrap came = came := IntWalk.i64_in _ (by have := HK.out; omega)
          have wc2 : IntKind.i64.wrap (si + 1) = si + 1 := IntWalk.i64_in _ (by have := HS.out; omega)
          have wc3 : came.tmod (si + 1) = gi := by rw [Int.tmod_eq_emod_of_nonneg (by have := HK.out; omega), ← hg0, hgi]
          have wc4 : IntKind.i64.wrap gi = gi := IntWalk.i64_in _ (by have := HS.out; omega)
          have wne : (si + 1 == 0) = false := by rw [beq_eq_false_iff_ne]; have := HS.out; omega
          have wne2 : (si + 1 = 0) = False := eq_false (by have := HS.out; omega)
          have wne3 : decide (si + 1 = 0) = false := by have := HS.out; simp; omega
          have wne4 : si + 1 ≠ 0 := by have := HS.out; omega
          have hh := H2.out.1.hearC (ansD (g : Int)) Sl.nil (.int .i64 2) 1000 0 (poll_inv c (bytesL k) (outN c k) HOK.out (by rw [bytesL_len]; omega) (by rw [bytesL_len]; omega) (by have := HS.out; omega) (bytesL_x k)) ⟨ans_typ g (by omega), rfl, rfl⟩ (fun N => ⟨.inl ⟨rfl, rfl⟩, fun h => absurd rfl h⟩) (by intro x hx; cases hx) (by rw [ans_E c (bytesL k) (outN c k) g hgo (by omega)]; rfl) (by omega)
          obtain ⟨Cn, hC⟩ := ans_hear c HOK.out (bytesL k) (outN c k) g hgo (by omega)
          rw [hC] at hh
          obtain ⟨r1, r2, r3⟩ := ans_facts c k g (wideN c.wd g) Cn hk30 (by omega)
          obtain ⟨R, hR⟩ : ∃ R : TM, ({ pushM (bM c (bytesL k) g (wideN c.wd g) Cn) with state := 8 } : TM) = R := ⟨_, rfl⟩
          have r4 : R.state = 8 := by rw [← hR]
          rw [hR] at hh r1 r2 r3
          have hh : Calls Tryz.prog 22 #[.pointer (some ⟨t, 0, none⟩), .agg #[.int .i64 4, .int .i64 8, .bool true, .int .i64 1, .int .i64 0, .int .i64 0, .int .i64 gi, .bool true, .slice none 0 0], .int .i64 2] wr (GivesO w3 wr t v2 R) := by rw [← hgi]; exact hh
          obtain ⟨W, hW⟩ : ∃ W : Int, wideN c.wd g = W := ⟨_, rfl⟩
          have hwn := wideN_is c.wd g (by have := HS.out; omega) (by omega)
          rw [hW] at r1 r2 hwn
          rw [hgi] at hwn
          obtain ⟨N, hN⟩ : ∃ N : Nat, min (k - g) W.toNat = N := ⟨_, rfl⟩
          rw [hN] at r1
          have HR := Lib.hid (And.intro r1 (And.intro r2 (And.intro r3 (And.intro r4 (And.intro hwn (And.intro hgi (And.intro hgs hN)))))))
          clear hR hC r1 r2 r3 r4 hwn hW hN hgi hgs hgo hok30 hk30 hg0
          go_wp2_with fail
          refine hh.mono ?_
          rintro e w12 ⟨x12, v12, rfl, ⟨ps, py, pk, -, hx, -, -, -, hps, -, -⟩, o12, -⟩
          rw [HR.out.1] at hps
          have hlenN : R.send.length = N := by rw [HR.out.1]; simp [againL]
          rw [hlenN] at hx
          subst hx
          clear hlenN
          obtain ⟨l1, hl1⟩ : ∃ a, R.say.length = a := ⟨_, rfl⟩
          obtain ⟨l2, hl2⟩ : ∃ a, R.took.length = a := ⟨_, rfl⟩
          obtain ⟨l3, hl3⟩ : ∃ a, R.used = a := ⟨_, rfl⟩
          rw [hl1, hl2, hl3]
          clear hl1 hl2 hl3
          have bO := Blk.new w12 #[.slice ps.A N ps.c, .slice py.A l1 py.c, .slice pk.A l2 pk.c, .bool l3] 36
          have fO := (Fr.refl [] w12).alloc (.cells #[.slice ps.A N ps.c, .slice py.A l1 py.c, .slice pk.A l2 pk.c, .bool l3] 36)
          have H3 := Lib.hid (And.intro (o12.fr0 fO) (And.intro bO (PRow.fr fO hps)))
          obtain ⟨Q, hQ⟩ : ∃ Q, w12.heap.size = Q := ⟨_, rfl⟩
          rw [hQ] at H3
          have HQ := Lib.hid hQ
          clear hQ o12 bO fO hps hh wc1 wc2 wc3 wne wne2 wne3 wne4
          go_wp2
          rw [HQ.out]
          clear HQ cc0 cc1 cc2 cc3 cc4 cc5 c0 s2 s3 s4 s5 s6 s7 d1 wc4
          obtain ⟨w13, hw13⟩ : ∃ w13, w12.alloc (.cells #[.slice ps.A N ps.c, .slice py.A l1 py.c, .slice pk.A l2 pk.c, .bool l3] 36) = w13 := ⟨_, rfl⟩
          rw [hw13] at H3 ⊢
          clear hw13
          go_loopw [19] (fun x wr => ∃ X : Int, x = .int .i64 X ∧ 1 ≤ X ∧ X ≤ W ∧ wr = w13) (fun x _ => (W - intOf x).toNat)
          case atStart => exact ⟨1, rfl, by omega, HR.out.2.2.2.2.1.1, rfl⟩
          case round =>
            obtain ⟨X, rfl, hX1, hX2, rfl⟩ := hrel
            obtain ⟨cc0, cc1, cc2, cc3, cc4, cc5⟩ := cfg_cells (HC3.out.1.fr H3.out.1.fr (by simp))
            have hb := HR.out.2.2.2.2.1
            have hwd := HS.out.2.2.2.1
            have hXX : 0 ≤ X * (X + 1) ∧ X * (X + 1) ≤ 64 * 65 := ⟨Int.mul_nonneg (by omega) (by omega), Int.mul_le_mul (by omega) (by omega) (by omega) (by omega)⟩
            have v1 : IntKind.i64.wrap (X + 1) = X + 1 := IntWalk.i64_in _ (by omega)
            have v2' : IntKind.i64.wrap (X * (X + 1)) = X * (X + 1) := IntWalk.i64_in _ (by omega)
            have v3 : (X * (X + 1)).tdiv 2 = X * (X + 1) / 2 := Int.tdiv_eq_ediv_of_nonneg hXX.1
            have v4 : IntKind.i64.wrap (X * (X + 1) / 2) = X * (X + 1) / 2 := IntWalk.i64_in _ (by omega)
            rcases (show X < W ∨ X = W by omega) with hlt | heq
            · have hm : X * (X + 1) ≤ (W - 1) * W := Int.mul_le_mul (by omega) (by omega) (by omega) (by omega)
              rw [Int.sub_mul, Int.one_mul] at hm
              have d1 : decide (X < c.wd) = true := by simp; omega
              have d2 : decide (X * (X + 1) / 2 ≤ gi) = true := by simp; omega
              have HX := Lib.hid (And.intro hX1 hlt)
              clear hm hX1 hX2 hlt hb hwd hXX
              go_wp2
              go_roundw
              case rel => exact ⟨X + 1, rfl, by have := HX.out; omega, by have := HX.out; omega, by trivial⟩
              case measure => simp [intOf]; have := HX.out; omega
            · subst heq
              have hst := H3.out.1.stateC
              have hst : Calls Tryz.prog 18 #[.pointer (some ⟨t, 0, none⟩)] wr fun e w' => e = .returned (.int .i64 8) ∧ wr = w' := by rw [← HR.out.2.2.2.1]; exact hst
              have hwi := tie_Width wr v12 _ H3.out.1.is
              rw [H3.out.1.t] at hwi
              have hwi : Calls Tryz.prog 34 #[.pointer (some ⟨t, 0, none⟩)] wr fun e w' => e = .returned (.int .i64 X) ∧ wr = w' := by rw [← HR.out.2.1]; exact hwi
              have hre := tie_Retries wr v12 _ H3.out.1.is
              rw [H3.out.1.t] at hre
              have hre : Calls Tryz.prog 35 #[.pointer (some ⟨t, 0, none⟩)] wr fun e w' => e = .returned (.int .i64 0) ∧ wr = w' := by rw [← HR.out.2.2.1]; exact hre
              have HST := Lib.hid (And.intro hst (And.intro hwi hre))
              have q0 := H3.out.2.1.cell 0 rfl
              simp only [List.getElem_toArray, List.getElem_cons_zero] at q0
              obtain ⟨NI, hNI⟩ : ∃ NI : Int, (N : Int) = NI := ⟨_, rfl⟩
              have hmin : (if X < KI - gi then X else KI - gi) = NI := by
                have a1 := HR.out.2.2.2.2.2.1
                have a2 := HR.out.2.2.2.2.2.2.1
                have a3 := HR.out.2.2.2.2.2.2.2
                have a4 := HS.out
                rw [← hNI, ← a3]
                split <;> omega
              have hkg : IntKind.i64.wrap (KI - gi) = KI - gi := IntWalk.i64_in _ (by have := HR.out.2.2.2.2.2.1; have := HR.out.2.2.2.2.2.2.1; have := HS.out; have := HK.out; omega)
              have hnn : (NI != NI) = false := by simp
              have hxx : (X != X) = false := by simp
              have hse : ∀ i, i < N → ∃ (b : Nat) (sd : Sl), ps.A = some ⟨b, 0, none⟩ ∧ Ints .u8 wr sd.v [((g + i : Nat) : Int)] ∧ wr.cell? ⟨b, i * 9 + 3, none⟩ = some (.int .i64 0) ∧ wr.cell? ⟨b, i * 9 + 5, none⟩ = some (.int .i64 ((g + i : Nat) : Int)) ∧ wr.cell? ⟨b, i * 9 + 8, none⟩ = some (.slice sd.A sd.n sd.c) := fun i hi => by
                obtain ⟨b, sd, e1, e2, -, -, -, e3, -, e4, -, -, e5⟩ := H3.out.2.2.get (againL_at g N i hi)
                exact ⟨b, sd, e1, e2.1, e3, e4, e5⟩
              have HSE := Lib.hid (And.intro hse hNI)
              have dd : decide (X < c.wd) = false ∨ decide (X < c.wd) = true ∧ decide (X * (X + 1) / 2 ≤ gi) = false := by
                rcases (show X < c.wd ∨ X = c.wd by omega) with h | h
                · right
                  have h2 := hb.2.2.2 h
                  have e : X * (X + 1) = X * X + X := by rw [Int.mul_add, Int.mul_one]
                  have ev := even_tri X
                  exact ⟨by simpa using h, by simp; omega⟩
                · left; simp; omega
              clear hst hwi hre hse hb hwd hXX hX1 hX2 cc1 cc2 cc3 cc4 cc5
              rcases dd with d1 | ⟨d1, d2⟩
              · go_wp2_with fail
                refine HST.out.1.mono ?_
                rintro e wq ⟨rfl, rfl⟩
                go_wp2_with fail
                refine HST.out.2.1.mono ?_
                rintro e wq ⟨rfl, rfl⟩
                go_wp2_with fail
                refine HST.out.2.2.mono ?_
                rintro e wq ⟨rfl, rfl⟩
                clear v1 v2' v3 v4 cc0 hmin hkg d1 
                go_wp2
                go_loopw [20] (fun x wy => ∃ i : Nat, x = .int .i64 (i : Int) ∧ i ≤ N ∧ Fr [] wr wy) (fun x _ => (NI - intOf x).toNat)
                case atStart => exact ⟨0, rfl, by omega, Fr.refl _ _⟩
                case round =>
                  obtain ⟨i, rfl, hi, fy⟩ := hrel
                  have q0' := fy.cell q0 (by simp)
                  by_cases hlt : i < N
                  · have d1 : decide ((i : Int) < NI) = true := by simp; omega
                    obtain ⟨b9, sd, hA, hbt, e3, e5, e8⟩ := HSE.out.1 i hlt
                    have a1 := HR.out.2.2.2.2.2.1
                    have a2 := HR.out.2.2.2.2.2.2.1
                    have a3 := HR.out.2.2.2.2.2.2.2
                    have a4 := HS.out
                    have a5 := HK.out
                    obtain ⟨yi, hyi⟩ : ∃ yi : Int, ((g + i : Nat) : Int) = yi := ⟨_, rfl⟩
                    have hyy : gi + (i : Int) = yi := by rw [← hyi, ← a1]; push_cast; rfl
                    have hy0 : 0 ≤ yi ∧ yi ≤ 255 := by omega
                    rw [hyi] at hbt e5
                    obtain ⟨sA, sn, sc⟩ := sd
                    have hsn : sn = 1 := hbt.n'
                    subst hsn
                    have k1 : IntKind.i64.wrap (gi + (i : Int)) = yi := by rw [hyy]; exact IntWalk.i64_in _ (by omega)
                    have k2 : IntKind.u8.wrap yi = yi := by unfold IntKind.wrap; simp [IntKind.bits, IntKind.signed]; omega
                    have k3 : IntKind.i64.wrap ((i : Int) + 1) = (i : Int) + 1 := IntWalk.i64_in _ (by omega)
                    have k4 : (yi != yi) = false := by simp
                    have e3' := fy.cell e3 (by simp)
                    have e5' := fy.cell e5 (by simp)
                    have e8' := fy.cell e8 (by simp)
                    have bz := bts_new wr [yi] #[.int .u8 yi] 1 rfl rfl (by intro z hz; simp at hz; subst hz; exact u8_wf hy0.1 hy0.2) 0
                    have fz := (Fr.refl [] wr).alloc (.cells #[.int .u8 yi] 5)
                    have hsm := r_Same _ ⟨sA, 1, sc⟩ _ [yi] [yi] (hbt.fr (fy.tr fz)) bz.1 (by simp)
                    rw [show ([yi] == [yi]) = true from beq_self_eq_true _] at hsm
                    have HSM := Lib.hid (And.intro hsm (And.intro (fy.tr fz) (And.intro hlt hyy)))
                    obtain ⟨pA, pn, pc⟩ := ps
                    simp only at hA
                    subst hA
                    have ib : i < N := hlt
                    have hlen : R.send.length = N := by rw [HR.out.1]; simp [againL]
                    have i1 : decide ((i : Int) < (N : Int)) = true := by simp; exact hlt
                    have i2 : ((i : Int) < NI) = True := eq_true (by omega)
                    have i3 : (i < N) = True := eq_true hlt
                    clear hlt hyi hyy hy0 hbt e3 e5 e8 a1 a2 a3 a4 a5 bz fz hsm hlen q0 fy hi ib
                    go_wp2_with fail
                    refine HSM.out.1.mono ?_
                    rintro e wz ⟨rfl, fw⟩
                    clear e3' e5' e8' q0' i1 i2 i3 k1 k2 k4
                    go_wp2
                    go_roundw
                    case rel => exact ⟨i + 1, by simp, by have := HSM.out.2.2.1; omega, HSM.out.2.1.tr fw⟩
                    case measure => simp [intOf]; have := HSM.out.2.2.1; have := HSE.out.2; omega
                  · have d1 : decide ((i : Int) < NI) = false := by simp; omega
                    clear hlt hi
                    go_wp2
                    go_ret
                    exact ⟨rfl, HC3.out.2.tr (H3.out.1.fr.tr fy)⟩
              · go_wp2_with fail
                refine HST.out.1.mono ?_
                rintro e wq ⟨rfl, rfl⟩
                go_wp2_with fail
                refine HST.out.2.1.mono ?_
                rintro e wq ⟨rfl, rfl⟩
                go_wp2_with fail
                refine HST.out.2.2.mono ?_
                rintro e wq ⟨rfl, rfl⟩
                clear v1 v2' v3 v4 cc0 hmin hkg d1 d2
                go_wp2
                go_loopw [20] (fun x wy => ∃ i : Nat, x = .int .i64 (i : Int) ∧ i ≤ N ∧ Fr [] wr wy) (fun x _ => (NI - intOf x).toNat)
                case atStart => exact ⟨0, rfl, by omega, Fr.refl _ _⟩
                case round =>
                  obtain ⟨i, rfl, hi, fy⟩ := hrel
                  have q0' := fy.cell q0 (by simp)
                  by_cases hlt : i < N
                  · have d1 : decide ((i : Int) < NI) = true := by simp; omega
                    obtain ⟨b9, sd, hA, hbt, e3, e5, e8⟩ := HSE.out.1 i hlt
                    have a1 := HR.out.2.2.2.2.2.1
                    have a2 := HR.out.2.2.2.2.2.2.1
                    have a3 := HR.out.2.2.2.2.2.2.2
                    have a4 := HS.out
                    have a5 := HK.out
                    obtain ⟨yi, hyi⟩ : ∃ yi : Int, ((g + i : Nat) : Int) = yi := ⟨_, rfl⟩
                    have hyy : gi + (i : Int) = yi := by rw [← hyi, ← a1]; push_cast; rfl
                    have hy0 : 0 ≤ yi ∧ yi ≤ 255 := by omega
                    rw [hyi] at hbt e5
                    obtain ⟨sA, sn, sc⟩ := sd
                    have hsn : sn = 1 := hbt.n'
                    subst hsn
                    have k1 : IntKind.i64.wrap (gi + (i : Int)) = yi := by rw [hyy]; exact IntWalk.i64_in _ (by omega)
                    have k2 : IntKind.u8.wrap yi = yi := by unfold IntKind.wrap; simp [IntKind.bits, IntKind.signed]; omega
                    have k3 : IntKind.i64.wrap ((i : Int) + 1) = (i : Int) + 1 := IntWalk.i64_in _ (by omega)
                    have k4 : (yi != yi) = false := by simp
                    have e3' := fy.cell e3 (by simp)
                    have e5' := fy.cell e5 (by simp)
                    have e8' := fy.cell e8 (by simp)
                    have bz := bts_new wr [yi] #[.int .u8 yi] 1 rfl rfl (by intro z hz; simp at hz; subst hz; exact u8_wf hy0.1 hy0.2) 0
                    have fz := (Fr.refl [] wr).alloc (.cells #[.int .u8 yi] 5)
                    have hsm := r_Same _ ⟨sA, 1, sc⟩ _ [yi] [yi] (hbt.fr (fy.tr fz)) bz.1 (by simp)
                    rw [show ([yi] == [yi]) = true from beq_self_eq_true _] at hsm
                    have HSM := Lib.hid (And.intro hsm (And.intro (fy.tr fz) (And.intro hlt hyy)))
                    obtain ⟨pA, pn, pc⟩ := ps
                    simp only at hA
                    subst hA
                    have ib : i < N := hlt
                    have hlen : R.send.length = N := by rw [HR.out.1]; simp [againL]
                    have i1 : decide ((i : Int) < (N : Int)) = true := by simp; exact hlt
                    have i2 : ((i : Int) < NI) = True := eq_true (by omega)
                    have i3 : (i < N) = True := eq_true hlt
                    clear hlt hyi hyy hy0 hbt e3 e5 e8 a1 a2 a3 a4 a5 bz fz hsm hlen q0 fy hi ib
                    go_wp2_with fail
                    refine HSM.out.1.mono ?_
                    rintro e wz ⟨rfl, fw⟩
                    clear e3' e5' e8' q0' i1 i2 i3 k1 k2 k4
                    go_wp2
                    go_roundw
                    case rel => exact ⟨i + 1, by simp, by have := HSM.out.2.2.1; omega, HSM.out.2.1.tr fw⟩
                    case measure => simp [intOf]; have := HSM.out.2.2.1; have := HSE.out.2; omega
                  · have d1 : decide ((i : Int) < NI) = false := by simp; omega
                    clear hlt hi
                    go_wp2
                    go_ret
                    exact ⟨rfl, HC3.out.2.tr (H3.out.1.fr.tr fy)⟩
end Go.Proofs.YtneggoonlmmjeaaGreat
