/- The functions of package vars, and of the reference's numbers: what each call comes to at a row of three numbers in memory. -/
import Derived.Test.YtlmihnhgegopoaaSeqW
import Derived.Test.YtlmihnhgegopoaaReg
import Derived.BigQuiet
import Derived.Deep.QuietTactic
import Derived.WalkLawsBesides
import Derived.WalkSpells
namespace Go.Proofs.Ytlmihnhgegopoaa
open Go.RowKit
set_option linter.unusedVariables false
set_option linter.unusedSimpArgs false

/-- Block b holds three numbers: V(S), V(R), V(A). -/
def Is3 (t : TypeId) (w : World) (b : Nat) (s r a : Int) : Prop := Blk w b #[.int .i64 s, .int .i64 r, .int .i64 a] t
abbrev IsV := Is3 25
abbrev IsR := Is3 35

theorem Is3.c0 {t : TypeId} {w : World} {b : Nat} {s r a : Int} (h : Is3 t w b s r a) : w.cell? ⟨b, 0, none⟩ = some (.int .i64 s) := Blk.cell h 0 rfl
theorem Is3.c1 {t : TypeId} {w : World} {b : Nat} {s r a : Int} (h : Is3 t w b s r a) : w.cell? ⟨b, 1, none⟩ = some (.int .i64 r) := Blk.cell h 1 rfl
theorem Is3.c2 {t : TypeId} {w : World} {b : Nat} {s r a : Int} (h : Is3 t w b s r a) : w.cell? ⟨b, 2, none⟩ = some (.int .i64 a) := Blk.cell h 2 rfl
theorem Is3.f {t : TypeId} {w : World} {b : Nat} {s r a : Int} (h : Is3 t w b s r a) (i : Nat) : w.frozen? ⟨b, i, none⟩ = false := Blk.free h i
theorem Is3.fr {t : TypeId} {w w' : World} {b : Nat} {s r a : Int} (h : Is3 t w b s r a) {L : List Nat} (k : Fr L w w') (hn : b ∉ L) : Is3 t w' b s r a := Blk.fr h k hn
theorem Is3.al {t : TypeId} {w : World} {b : Nat} {s r a : Int} (h : Is3 t w b s r a) (o : Obj) : Is3 t (w.alloc o) b s r a := Blk.alloc h o
theorem Is3.s0 {t : TypeId} {w : World} {b : Nat} {s r a : Int} (h : Is3 t w b s r a) (x : Int) : Is3 t (w.setCell ⟨b, 0, none⟩ (.int .i64 x)) b x r a := Blk.set h 0 _ rfl
theorem Is3.s1 {t : TypeId} {w : World} {b : Nat} {s r a : Int} (h : Is3 t w b s r a) (x : Int) : Is3 t (w.setCell ⟨b, 1, none⟩ (.int .i64 x)) b s x a := Blk.set h 1 _ rfl
theorem Is3.s2 {t : TypeId} {w : World} {b : Nat} {s r a : Int} (h : Is3 t w b s r a) (x : Int) : Is3 t (w.setCell ⟨b, 2, none⟩ (.int .i64 x)) b s r x := Blk.set h 2 _ rfl

theorem Fr.set1 {w w' : World} {b : Nat} (h : Fr [b] w w') (i : Nat) (v : Value) : Fr [b] w (w'.setCell ⟨b, i, none⟩ v) := h.setCell _ (.inl (by simp))
theorem Fr.to1 {w w' : World} (b : Nat) (h : Fr [] w w') : Fr [b] w w' := h.mono (by simp)
theorem Fr.tr {L : List Nat} {a b c : World} (h : Fr L a b) (k : Fr L b c) : Fr L a c := h.trans k (fun _ hx => .inl hx)
theorem Fr.tr0 {L : List Nat} {a b c : World} (h : Fr L a b) (k : Fr [] b c) : Fr L a c := h.trans k (fun _ hx => by cases hx)

theorem fld0 (x y z : Value) (w : World) : (Instr.field 25 (.agg #[x, y, z]) 0).run Try.prog w = .ok x w := by kernel_rfl
theorem fld1 (x y z : Value) (w : World) : (Instr.field 25 (.agg #[x, y, z]) 1).run Try.prog w = .ok y w := by kernel_rfl
theorem fld2 (x y z : Value) (w : World) : (Instr.field 25 (.agg #[x, y, z]) 2).run Try.prog w = .ok z w := by kernel_rfl
attribute [local go_sem] fld0 fld1 fld2

theorem vars_all (b : Nat) (s r a : Int) (w : World) (h : IsV w b s r a) :
    Calls Try.prog 25 #[.pointer (some ⟨b, 0, none⟩)] w fun e w' => e = .returned (.agg #[.int .i64 s, .int .i64 r, .int .i64 a]) ∧ Fr [] w w' := by
  have hA := h.al (.cells #[.int .i64 0, .int .i64 0, .int .i64 0] 25)
  have c0 := hA.c0
  have c1 := hA.c1
  have c2 := hA.c2
  clear hA
  go_enter Try.func25, Try.ntmps25
  go_wp2
  exact bodyPost_ret (v := .agg #[.int .i64 s, .int .i64 r, .int .i64 a]) (by simp [results, Try.results25, go_sem]) rfl ⟨rfl, (Fr.refl _ _).alloc _⟩

theorem vars_Vs (b : Nat) (s r a : Int) (w : World) (h : IsV w b s r a) :
    Calls Try.prog 11 #[.pointer (some ⟨b, 0, none⟩)] w fun e w' => e = .returned (.int .i64 s) ∧ Fr [] w w' := by
  go_enter Try.func11, Try.ntmps11
  go_wp2_with fail
  refine (vars_all _ _ _ _ _ h).mono ?_; rintro e w1 ⟨rfl, f1⟩
  go_wp2
  go_ret
  exact ⟨rfl, f1⟩

theorem vars_Vr (b : Nat) (s r a : Int) (w : World) (h : IsV w b s r a) :
    Calls Try.prog 15 #[.pointer (some ⟨b, 0, none⟩)] w fun e w' => e = .returned (.int .i64 r) ∧ Fr [] w w' := by
  go_enter Try.func15, Try.ntmps15
  go_wp2_with fail
  refine (vars_all _ _ _ _ _ h).mono ?_; rintro e w1 ⟨rfl, f1⟩
  go_wp2
  go_ret
  exact ⟨rfl, f1⟩

theorem vars_Va (b : Nat) (s r a : Int) (w : World) (h : IsV w b s r a) :
    Calls Try.prog 10 #[.pointer (some ⟨b, 0, none⟩)] w fun e w' => e = .returned (.int .i64 a) ∧ Fr [] w w' := by
  go_enter Try.func10, Try.ntmps10
  go_wp2_with fail
  refine (vars_all _ _ _ _ _ h).mono ?_; rintro e w1 ⟨rfl, f1⟩
  go_wp2
  go_ret
  exact ⟨rfl, f1⟩

theorem vars_Out (b : Nat) (s r a : Int) (w : World) (h : IsV w b s r a) :
    Calls Try.prog 12 #[.pointer (some ⟨b, 0, none⟩)] w fun e w' => e = .returned (.int .i64 ((s - a) % 128)) ∧ Fr [] w w' := by
  go_enter Try.func12, Try.ntmps12
  go_wp2_with fail
  refine (vars_Va _ _ _ _ _ h).mono ?_; rintro e w1 ⟨rfl, f1⟩
  go_wp2_with fail
  refine (vars_Vs _ _ _ _ _ (h.fr f1 (by simp))).mono ?_; rintro e w2 ⟨rfl, f2⟩
  go_wp2_with fail
  refine (seq_Dist _ _ _).mono ?_; rintro e w3 ⟨rfl, f3⟩
  go_wp2
  go_ret
  exact ⟨rfl, (f1.tr f2).tr f3⟩

theorem vars_up (b i : Nat) (x : Int) (v : Value) (w : World) (hc : w.cell? ⟨b, i, none⟩ = some (.int .i64 x)) (hf : w.frozen? ⟨b, i, none⟩ = false) :
    Calls Try.prog 22 #[v, .pointer (some ⟨b, i, none⟩)] w fun e w' => e = .returned (.int .i64 x) ∧ ∃ w1, Fr [] w w1 ∧ w' = w1.setCell ⟨b, i, none⟩ (.int .i64 ((x + 1) % 128)) := by
  have hlt : b < w.heap.size := World.block_lt_of_cell? w _ hc
  go_enter Try.func22, Try.ntmps22
  go_wp2_with fail
  refine (seq_Add _ _ _).mono ?_; rintro e w1 ⟨rfl, f1⟩
  have hc1 := f1.cell hc (by simp)
  have hf1 : w1.frozen? ⟨b, i, none⟩ = false := by rw [World.frozen?_of_block (w := w) (f1.block b hlt (by simp))]; exact hf
  go_wp2
  go_ret
  exact ⟨rfl, w1, f1, rfl⟩

theorem vars_Sent (b : Nat) (s r a : Int) (w : World) (h : IsV w b s r a) :
    Calls Try.prog 8 #[.pointer (some ⟨b, 0, none⟩)] w fun e w' =>
      e = .returned (.int .i64 (if (s - a) % 128 = 127 then -1 else s)) ∧ IsV w' b (if (s - a) % 128 = 127 then s else (s + 1) % 128) r a ∧ Fr [b] w w' := by
  by_cases hd : (s - a) % 128 = 127
  · rw [if_pos hd, if_pos hd]
    have hd' : 127 ≤ (s - a) % 128 := by omega
    clear hd
    go_enter Try.func8, Try.ntmps8
    go_wp2_with fail
    refine (vars_Out _ _ _ _ _ h).mono ?_; rintro e w1 ⟨rfl, f1⟩
    go_wp2
    go_ret
    exact ⟨rfl, h.fr f1 (by simp), f1.to1 _⟩
  · rw [if_neg hd, if_neg hd]
    have hd' : (s - a) % 128 < 127 := by omega
    clear hd
    go_enter Try.func8, Try.ntmps8
    go_wp2_with fail
    refine (vars_Out _ _ _ _ _ h).mono ?_; rintro e w1 ⟨rfl, f1⟩
    have h1 := h.fr f1 (by simp)
    go_wp2_with fail
    refine (vars_up _ _ _ _ _ h1.c0 (h1.f 0)).mono ?_; rintro e w2 ⟨rfl, w3, f3, rfl⟩
    go_wp2
    go_ret
    exact ⟨rfl, (h1.fr f3 (by simp)).s0 _, ((f1.tr f3).to1 b).set1 _ _⟩

theorem vars_Took (b : Nat) (s r a : Int) (w : World) (h : IsV w b s r a) :
    Calls Try.prog 14 #[.pointer (some ⟨b, 0, none⟩)] w fun e w' =>
      e = .returned (.int .i64 r) ∧ IsV w' b s ((r + 1) % 128) a ∧ Fr [b] w w' := by
  go_enter Try.func14, Try.ntmps14
  go_wp2_with fail
  refine (vars_up _ _ _ _ _ h.c1 (h.f 1)).mono ?_; rintro e w2 ⟨rfl, w3, f3, rfl⟩
  go_wp2
  go_ret
  exact ⟨rfl, (h.fr f3 (by simp)).s1 _, (f3.to1 b).set1 _ _⟩

theorem vars_Clear (b : Nat) (s r a : Int) (w : World) (h : IsV w b s r a) :
    Calls Try.prog 21 #[.pointer (some ⟨b, 0, none⟩)] w fun e w' =>
      e = .returned (.tuple #[]) ∧ IsV w' b 0 0 0 ∧ Fr [b] w w' := by
  have c0 := h.c0
  have c1 := h.c1
  have c2 := h.c2
  have f0 := h.f 0
  have f1 := h.f 1
  have f2 := h.f 2
  go_enter Try.func21, Try.ntmps21
  go_wp2
  go_end0
  exact ⟨rfl, ((h.s0 _).s1 _).s2 _, (((Fr.refl _ _).set1 _ _).set1 _ _).set1 _ _⟩

theorem vars_Back (b : Nat) (s r a : Int) (w : World) (h : IsV w b s r a) :
    Calls Try.prog 13 #[.pointer (some ⟨b, 0, none⟩)] w fun e w' =>
      e = .returned (.int .i64 ((s - a) % 128)) ∧ IsV w' b a r a ∧ Fr [b] w w' := by
  go_enter Try.func13, Try.ntmps13
  go_wp2_with fail
  refine (vars_Out _ _ _ _ _ h).mono ?_; rintro e w1 ⟨rfl, f1⟩
  have h1 := h.fr f1 (by simp)
  have c0 := h1.c0
  have c2 := h1.c2
  have f0 := h1.f 0
  go_wp2
  go_ret
  exact ⟨rfl, h1.s0 _, (f1.to1 b).set1 _ _⟩

theorem vars_Acked_low (b : Nat) (s r a n : Int) (w : World) (h : IsV w b s r a) (hn : n < 0) :
    Calls Try.prog 9 #[.pointer (some ⟨b, 0, none⟩), .int .i64 n] w fun e w' =>
      e = .returned (.int .i64 (-1)) ∧ IsV w' b s r a ∧ Fr [b] w w' := by
  go_enter Try.func9, Try.ntmps9
  go_wp2
  go_quiet (fail)
  go_wp2
  go_ret
  exact ⟨rfl, h, (Fr.refl _ _).drewN _⟩

theorem vars_Acked_high (b : Nat) (s r a n : Int) (w : World) (h : IsV w b s r a) (hn : 127 < n) :
    Calls Try.prog 9 #[.pointer (some ⟨b, 0, none⟩), .int .i64 n] w fun e w' =>
      e = .returned (.int .i64 (-1)) ∧ IsV w' b s r a ∧ Fr [b] w w' := by
  have h1 : ¬ n < 0 := by omega
  have h2 : decide (n < 0) = false := by simpa using h1
  have h3 : 128 ≤ n := by omega
  go_enter Try.func9, Try.ntmps9
  go_wp2
  go_quiet (fail)
  go_wp2
  go_ret
  exact ⟨rfl, h, (Fr.refl _ _).drewN _⟩

theorem vars_Acked_yes (b : Nat) (s r a n : Int) (w : World) (h : IsV w b s r a) (hn0 : 0 ≤ n) (hn1 : n ≤ 127) (hin : (n - a) % 128 ≤ (s - a) % 128) :
    Calls Try.prog 9 #[.pointer (some ⟨b, 0, none⟩), .int .i64 n] w fun e w' =>
      e = .returned (.int .i64 ((n - a) % 128)) ∧ IsV w' b s r n ∧ Fr [b] w w' := by
  have h2 : decide (n < 0) = false := by simp; omega
  have h3 : decide (128 ≤ n) = false := by simp; omega
  have c0 := After.cell h.c0
  have c2 := After.cell h.c2
  have hd : decide ((n - a) % 128 ≤ (s - a) % 128) = true := decide_eq_true hin
  go_enter Try.func9, Try.ntmps9
  go_wp2
  refine wp_region_after (by kernel_rfl) (by kernel_rfl) ?_
  repeat (go_big_quiet_step ((go_at_call 23; exact Calls.after (seq_In _ _ _ _))))
  refine wpQuiet_nil ?_
  rintro _ ⟨⟨w1, w1f⟩, rfl⟩
  clear c0 c2
  have h1 := h.fr w1f (by simp)
  have c2 := h1.c2
  have f2 := h1.f 2
  go_wp2_with fail
  refine (seq_Dist _ _ _).mono ?_
  rintro e w2 ⟨rfl, f3⟩
  have h4 := h1.fr f3 (by simp)
  clear c2 f2
  have c2 := h4.c2
  have f2 := h4.f 2
  go_wp2
  go_ret
  exact ⟨rfl, h4.s2 _, ((w1f.tr f3).to1 b).set1 _ _⟩

theorem vars_Acked_no (b : Nat) (s r a n : Int) (w : World) (h : IsV w b s r a) (hn0 : 0 ≤ n) (hn1 : n ≤ 127) (hin : ¬ (n - a) % 128 ≤ (s - a) % 128) :
    Calls Try.prog 9 #[.pointer (some ⟨b, 0, none⟩), .int .i64 n] w fun e w' =>
      e = .returned (.int .i64 (-1)) ∧ IsV w' b s r a ∧ Fr [b] w w' := by
  have h2 : decide (n < 0) = false := by simp; omega
  have h3 : decide (128 ≤ n) = false := by simp; omega
  have c0 := After.cell h.c0
  have c2 := After.cell h.c2
  have hd : decide ((n - a) % 128 ≤ (s - a) % 128) = false := decide_eq_false hin
  go_enter Try.func9, Try.ntmps9
  go_wp2
  refine wp_region_after (by kernel_rfl) (by kernel_rfl) ?_
  repeat (go_big_quiet_step ((go_at_call 23; exact Calls.after (seq_In _ _ _ _))))
  refine wpQuiet_nil ?_
  rintro _ ⟨⟨w1, w1f⟩, rfl⟩
  clear c0 c2
  go_wp2
  go_ret
  exact ⟨rfl, h.fr w1f (by simp), w1f.to1 b⟩

/-- All ways in one: what is acknowledged. -/
def ackN (s a n : Int) : Int := if 0 ≤ n ∧ n ≤ 127 ∧ (n - a) % 128 ≤ (s - a) % 128 then (n - a) % 128 else -1
def ackA (s a n : Int) : Int := if 0 ≤ n ∧ n ≤ 127 ∧ (n - a) % 128 ≤ (s - a) % 128 then n else a
theorem vars_Acked (b : Nat) (s r a n : Int) (w : World) (h : IsV w b s r a) :
    Calls Try.prog 9 #[.pointer (some ⟨b, 0, none⟩), .int .i64 n] w fun e w' =>
      e = .returned (.int .i64 (ackN s a n)) ∧ IsV w' b s r (ackA s a n) ∧ Fr [b] w w' := by
  unfold ackN ackA
  by_cases h1 : n < 0
  · rw [if_neg (by omega), if_neg (by omega)]; exact vars_Acked_low b s r a n w h h1
  · by_cases h2 : 127 < n
    · rw [if_neg (by omega), if_neg (by omega)]; exact vars_Acked_high b s r a n w h h2
    · by_cases h3 : (n - a) % 128 ≤ (s - a) % 128
      · rw [if_pos ⟨by omega, by omega, h3⟩, if_pos ⟨by omega, by omega, h3⟩]; exact vars_Acked_yes b s r a n w h (by omega) (by omega) h3
      · rw [if_neg (by omega), if_neg (by omega)]; exact vars_Acked_no b s r a n w h (by omega) (by omega) h3

/-- What is sent, and what the number is then. -/
def sentN (s a : Int) : Int := if (s - a) % 128 = 127 then -1 else s
def sentS (s a : Int) : Int := if (s - a) % 128 = 127 then s else (s + 1) % 128
theorem sentS_lo {s a : Int} (h0 : 0 ≤ s) : 0 ≤ sentS s a := by unfold sentS; split <;> omega
theorem sentS_hi {s a : Int} (h1 : s ≤ 127) : sentS s a ≤ 127 := by unfold sentS; split <;> omega
theorem ackA_lo {s a n : Int} (h0 : 0 ≤ a) : 0 ≤ ackA s a n := by unfold ackA; split <;> omega
theorem ackA_hi {s a n : Int} (h1 : a ≤ 127) : ackA s a n ≤ 127 := by unfold ackA; split <;> omega
theorem vars_Sent' (b : Nat) (s r a : Int) (w : World) (h : IsV w b s r a) :
    Calls Try.prog 8 #[.pointer (some ⟨b, 0, none⟩)] w fun e w' =>
      e = .returned (.int .i64 (sentN s a)) ∧ IsV w' b (sentS s a) r a ∧ Fr [b] w w' := vars_Sent b s r a w h
end Go.Proofs.Ytlmihnhgegopoaa
