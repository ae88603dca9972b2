/- The functions of package once that ask, and of package bound. -/
import Derived.Test.YtaefahbgeokopaaProg
import Derived.Test.YtaefahbgeokopaaPar
import Derived.Test.YtaefahbgeokopaaRow
import Derived.WalkLawsBesides
import Derived.WalkSpells
import Derived.OwnWalk
import Derived.Outline
import Derived.Lib.Hide
import Derived.Deep.RegionHeld3
namespace Go.Proofs.Ytaefahbgeokopaa
open Go.RowKit Go.Shelf
set_option linter.unusedVariables false
set_option linter.unusedSimpArgs false

/-- What a row comes to. -/
def small (l : List Int) : Prop := l.length ≤ 8 ∧ ∀ x ∈ l, -1000000000000000000 ≤ x ∧ x ≤ 1000000000000000000
theorem sum_le (l : List Int) (h : ∀ x ∈ l, -1000000000000000000 ≤ x ∧ x ≤ 1000000000000000000) : -1000000000000000000 * l.length ≤ l.sum ∧ l.sum ≤ 1000000000000000000 * l.length := by
  induction l with
  | nil => simp
  | cons a l ih =>
    have h1 := h a (by simp)
    have h2 := ih (fun x hx => h x (by simp [hx]))
    simp only [List.sum_cons, List.length_cons]
    omega

theorem b_sum (l : List Int) (b : Nat) (w : World) (hs : small l) (hc : ∀ i (h : i < l.length), w.cell? ⟨b, i, none⟩ = some (.int .i64 l[i])) :
    Calls Try.prog 22 #[.slice (some ⟨b, 0, none⟩) l.length l.length] w fun e w' => e = .returned (.int .i64 l.sum) ∧ w = w' := by
  have hln := hs.1
  go_enter Try.func22, Try.ntmps22
  go_wp2
  go_loopw [3, 8] (fun s i wr => wr = w ∧ ∃ k : Nat, i = .int .i64 k ∧ k ≤ l.length ∧ s = .int .i64 (l.take k).sum) (fun s i _ => l.length - (intOf i).toNat)
  case atStart => exact ⟨rfl, 0, rfl, by omega, by simp⟩
  case round =>
    obtain ⟨rfl, k, rfl, hk, rfl⟩ := hrel
    by_cases hlt : k < l.length
    · have h1 := hc k hlt
      have hd : decide ((k : Int) < (l.length : Int)) = true := by simp; omega
      have hsum : (l.take (k + 1)).sum = (l.take k).sum + l[k] := by rw [← List.take_append_getElem hlt, List.sum_append]; simp
      have hle := sum_le (l.take k) (fun x hx => hs.2 x (List.mem_of_mem_take hx))
      have hx := hs.2 _ (List.getElem_mem hlt)
      have hlen : (l.take k).length = k := by simp; omega
      rw [hlen] at hle
      have hw : IntKind.i64.wrap ((l.take k).sum + l[k]) = (l.take k).sum + l[k] := IntWalk.i64_in _ (by omega)
      go_wp2
      go_roundw
      case rel => exact ⟨trivial, k + 1, by simp, by omega, by rw [hsum]⟩
      case measure => simp [intOf]; omega
    · have hd : decide ((k : Int) < (l.length : Int)) = false := by simp; omega
      have hkl : k = l.length := by omega
      have hT : (l.take k).sum = l.sum := by rw [hkl, List.take_length]
      go_wp2
      go_ret
      exact ⟨by rw [← hT]; rfl, rfl⟩

/-- Whether a number is a SAP. -/
def sapB (n : Int) : Bool := decide (2 ≤ n) && decide (n ≤ 254) && decide (n % 2 = 0)

theorem once_sap (n : Int) (w : World) :
    Calls Try.prog 21 #[.int .i64 n] w fun e w' => e = .returned (.bool (sapB n)) ∧ w = w' := by
  unfold sapB
  by_cases h1 : 2 ≤ n
  · have d1 : decide (2 ≤ n) = true := by simpa using h1
    by_cases h2 : n ≤ 254
    · have d2 : decide (n ≤ 254) = true := by simpa using h2
      by_cases h3 : n % 2 = 0
      · have d3 : decide (n % 2 = 0) = true := by simpa using h3
        have e3 : (n % 2 == 0) = true := by simpa using h3
        rw [d1, d2, d3]
        clear h3
        go_enter Try.func21, Try.ntmps21
        go_wp2
        go_ret
        exact ⟨rfl, rfl⟩
      · have d3 : decide (n % 2 = 0) = false := by simpa using h3
        have e3 : (n % 2 == 0) = false := by simpa using h3
        rw [d1, d2, d3]
        clear h3
        go_enter Try.func21, Try.ntmps21
        go_wp2
        go_ret
        exact ⟨rfl, rfl⟩
    · have d2 : decide (n ≤ 254) = false := by simpa using h2
      rw [d1, d2]
      go_enter Try.func21, Try.ntmps21
      go_wp2
      go_ret
      exact ⟨rfl, rfl⟩
  · have d1 : decide (2 ≤ n) = false := by simpa using h1
    rw [d1]
    go_enter Try.func21, Try.ntmps21
    go_wp2
    go_ret
    exact ⟨rfl, rfl⟩

/-- A configuration of package once. -/
def oV (t a q : Int) : Value := .agg #[.int .i64 t, .int .i64 a, .int .i64 q]

theorem law21_Config (t a q : Int) (w : World) :
    Calls Try.prog 9 #[oV t a q] w fun e w' => e = .returned (oV t a q) ∧ Fr [] w w' := by
  unfold oV
  go_enter Try.func9, Try.ntmps9
  go_wp2
  exact bodyPost_ret (v := .agg #[.int .i64 t, .int .i64 a, .int .i64 q]) (by simp [results, Try.results9, go_sem]) rfl ⟨rfl, ((Fr.refl _ _).alloc _).alloc _⟩

/-- Whether a configuration may be. -/
def okO (t a q : Int) : Prop := 1 ≤ t ∧ t ≤ 100 ∧ 1 ≤ a ∧ a ≤ 10000 ∧ 0 ≤ q ∧ q ≤ 10000

/-- What lies in memory, cell by cell. -/
structure PM where
  to : Int
  fr : Int
  re : Bool
  form : Int
  kind : Int
  ns : Int
  nr : Int
  poll : Bool
  info : Sl
def PM.cells (o : PM) : Array Value :=
  #[.int .i64 o.to, .int .i64 o.fr, .bool o.re, .int .i64 o.form, .int .i64 o.kind, .int .i64 o.ns, .int .i64 o.nr, .bool o.poll, .slice o.info.A o.info.n o.info.c]
abbrev PM.val (o : PM) : Value := .agg #[.int .i64 o.to, .int .i64 o.fr, .bool o.re, .int .i64 o.form, .int .i64 o.kind, .int .i64 o.ns, .int .i64 o.nr, .bool o.poll, .slice o.info.A o.info.n o.info.c]
def IsPM (w : World) (b : Nat) (o : PM) : Prop := Blk w b o.cells 34
theorem IsPM.all {w : World} {b : Nat} {o : PM} (h : IsPM w b o) : w.cell? ⟨b, 0, none⟩ = some (.int .i64 o.to) ∧ w.cell? ⟨b, 1, none⟩ = some (.int .i64 o.fr) ∧ w.cell? ⟨b, 2, none⟩ = some (.bool o.re) ∧ w.cell? ⟨b, 3, none⟩ = some (.int .i64 o.form) ∧ w.cell? ⟨b, 4, none⟩ = some (.int .i64 o.kind) ∧ w.cell? ⟨b, 5, none⟩ = some (.int .i64 o.ns) ∧ w.cell? ⟨b, 6, none⟩ = some (.int .i64 o.nr) ∧ w.cell? ⟨b, 7, none⟩ = some (.bool o.poll) ∧ w.cell? ⟨b, 8, none⟩ = some (.slice o.info.A o.info.n o.info.c) :=
  ⟨Blk.cell h 0 rfl, Blk.cell h 1 rfl, Blk.cell h 2 rfl, Blk.cell h 3 rfl, Blk.cell h 4 rfl, Blk.cell h 5 rfl, Blk.cell h 6 rfl, Blk.cell h 7 rfl, Blk.cell h 8 rfl⟩
theorem IsPM.frz {w : World} {b : Nat} {o : PM} (h : IsPM w b o) : w.frozen? ⟨b, 0, none⟩ = false ∧ w.frozen? ⟨b, 1, none⟩ = false ∧ w.frozen? ⟨b, 2, none⟩ = false ∧ w.frozen? ⟨b, 3, none⟩ = false ∧ w.frozen? ⟨b, 4, none⟩ = false ∧ w.frozen? ⟨b, 5, none⟩ = false ∧ w.frozen? ⟨b, 6, none⟩ = false ∧ w.frozen? ⟨b, 7, none⟩ = false ∧ w.frozen? ⟨b, 8, none⟩ = false :=
  ⟨Blk.free h 0, Blk.free h 1, Blk.free h 2, Blk.free h 3, Blk.free h 4, Blk.free h 5, Blk.free h 6, Blk.free h 7, Blk.free h 8⟩
theorem IsPM.new {w : World} {b : Nat} (o : PM) (h : b = w.heap.size) : IsPM (w.alloc (.cells #[.int .i64 o.to, .int .i64 o.fr, .bool o.re, .int .i64 o.form, .int .i64 o.kind, .int .i64 o.ns, .int .i64 o.nr, .bool o.poll, .slice o.info.A o.info.n o.info.c] 34)) b o := Blk.newAt _ _ _ _ h
theorem IsPM.fr {w w' : World} {b : Nat} {o : PM} (h : IsPM w b o) {L : List Nat} (k : Fr L w w') (hn : b ∉ L) : IsPM w' b o := Blk.fr h k hn
theorem IsPM.lt {w : World} {b : Nat} {o : PM} (h : IsPM w b o) : b < w.heap.size := Blk.lt h
theorem IsPM.f {w : World} {b : Nat} {o : PM} (h : IsPM w b o) (i : Nat) : w.frozen? ⟨b, i, none⟩ = false := Blk.free h i
theorem IsPM.al {w : World} {b : Nat} {o : PM} (h : IsPM w b o) (x : Obj) : IsPM (w.alloc x) b o := Blk.alloc h x
theorem IsPM.far {w : World} {b : Nat} {o : PM} (h : IsPM w b o) {p : Addr} (hp : b ≠ p.block) (v : Value) : IsPM (w.setCell p v) b o := Blk.far h hp v
theorem IsPM.drewN {w : World} {b : Nat} {o : PM} (h : IsPM w b o) (n : Nat) : IsPM (w.drewN n) b o := h
theorem IsPM.s_to {w : World} {b : Nat} {o : PM} (h : IsPM w b o) (x : Int) : IsPM (w.setCell ⟨b, 0, none⟩ (.int .i64 x)) b { o with to := x } := Blk.set h 0 _ rfl
theorem IsPM.s_fr {w : World} {b : Nat} {o : PM} (h : IsPM w b o) (x : Int) : IsPM (w.setCell ⟨b, 1, none⟩ (.int .i64 x)) b { o with fr := x } := Blk.set h 1 _ rfl
theorem IsPM.s_re {w : World} {b : Nat} {o : PM} (h : IsPM w b o) (x : Bool) : IsPM (w.setCell ⟨b, 2, none⟩ (.bool x)) b { o with re := x } := Blk.set h 2 _ rfl
theorem IsPM.s_form {w : World} {b : Nat} {o : PM} (h : IsPM w b o) (x : Int) : IsPM (w.setCell ⟨b, 3, none⟩ (.int .i64 x)) b { o with form := x } := Blk.set h 3 _ rfl
theorem IsPM.s_kind {w : World} {b : Nat} {o : PM} (h : IsPM w b o) (x : Int) : IsPM (w.setCell ⟨b, 4, none⟩ (.int .i64 x)) b { o with kind := x } := Blk.set h 4 _ rfl
theorem IsPM.s_ns {w : World} {b : Nat} {o : PM} (h : IsPM w b o) (x : Int) : IsPM (w.setCell ⟨b, 5, none⟩ (.int .i64 x)) b { o with ns := x } := Blk.set h 5 _ rfl
theorem IsPM.s_nr {w : World} {b : Nat} {o : PM} (h : IsPM w b o) (x : Int) : IsPM (w.setCell ⟨b, 6, none⟩ (.int .i64 x)) b { o with nr := x } := Blk.set h 6 _ rfl
theorem IsPM.s_poll {w : World} {b : Nat} {o : PM} (h : IsPM w b o) (x : Bool) : IsPM (w.setCell ⟨b, 7, none⟩ (.bool x)) b { o with poll := x } := Blk.set h 7 _ rfl
theorem IsPM.s_info {w : World} {b : Nat} {o : PM} (h : IsPM w b o) (x : Sl) : IsPM (w.setCell ⟨b, 8, none⟩ (.slice x.A x.n x.c)) b { o with info := x } := Blk.set h 8 _ rfl
/-- What lies in memory, cell by cell. -/
structure OM where
  t : Int
  a : Int
  q : Int
  near : Int
  there : Int
  bit : Int
  asks : Bool
  p : PM
  sent : Int
  left : Int
  wait : Int
def OM.cells (o : OM) : Array Value :=
  #[.int .i64 o.t, .int .i64 o.a, .int .i64 o.q, .int .i64 o.near, .int .i64 o.there, .int .i64 o.bit, .bool o.asks, .int .i64 o.p.to, .int .i64 o.p.fr, .bool o.p.re, .int .i64 o.p.form, .int .i64 o.p.kind, .int .i64 o.p.ns, .int .i64 o.p.nr, .bool o.p.poll, .slice o.p.info.A o.p.info.n o.p.info.c, .int .i64 o.sent, .int .i64 o.left, .int .i64 o.wait]
abbrev OM.val (o : OM) : Value := .agg #[.int .i64 o.t, .int .i64 o.a, .int .i64 o.q, .int .i64 o.near, .int .i64 o.there, .int .i64 o.bit, .bool o.asks, .int .i64 o.p.to, .int .i64 o.p.fr, .bool o.p.re, .int .i64 o.p.form, .int .i64 o.p.kind, .int .i64 o.p.ns, .int .i64 o.p.nr, .bool o.p.poll, .slice o.p.info.A o.p.info.n o.p.info.c, .int .i64 o.sent, .int .i64 o.left, .int .i64 o.wait]
def IsOM (w : World) (b : Nat) (o : OM) : Prop := Blk w b o.cells 57
theorem IsOM.all {w : World} {b : Nat} {o : OM} (h : IsOM w b o) : w.cell? ⟨b, 0, none⟩ = some (.int .i64 o.t) ∧ w.cell? ⟨b, 1, none⟩ = some (.int .i64 o.a) ∧ w.cell? ⟨b, 2, none⟩ = some (.int .i64 o.q) ∧ w.cell? ⟨b, 3, none⟩ = some (.int .i64 o.near) ∧ w.cell? ⟨b, 4, none⟩ = some (.int .i64 o.there) ∧ w.cell? ⟨b, 5, none⟩ = some (.int .i64 o.bit) ∧ w.cell? ⟨b, 6, none⟩ = some (.bool o.asks) ∧ w.cell? ⟨b, 7, none⟩ = some (.int .i64 o.p.to) ∧ w.cell? ⟨b, 8, none⟩ = some (.int .i64 o.p.fr) ∧ w.cell? ⟨b, 9, none⟩ = some (.bool o.p.re) ∧ w.cell? ⟨b, 10, none⟩ = some (.int .i64 o.p.form) ∧ w.cell? ⟨b, 11, none⟩ = some (.int .i64 o.p.kind) ∧ w.cell? ⟨b, 12, none⟩ = some (.int .i64 o.p.ns) ∧ w.cell? ⟨b, 13, none⟩ = some (.int .i64 o.p.nr) ∧ w.cell? ⟨b, 14, none⟩ = some (.bool o.p.poll) ∧ w.cell? ⟨b, 15, none⟩ = some (.slice o.p.info.A o.p.info.n o.p.info.c) ∧ w.cell? ⟨b, 16, none⟩ = some (.int .i64 o.sent) ∧ w.cell? ⟨b, 17, none⟩ = some (.int .i64 o.left) ∧ w.cell? ⟨b, 18, none⟩ = some (.int .i64 o.wait) :=
  ⟨Blk.cell h 0 rfl, Blk.cell h 1 rfl, Blk.cell h 2 rfl, Blk.cell h 3 rfl, Blk.cell h 4 rfl, Blk.cell h 5 rfl, Blk.cell h 6 rfl, Blk.cell h 7 rfl, Blk.cell h 8 rfl, Blk.cell h 9 rfl, Blk.cell h 10 rfl, Blk.cell h 11 rfl, Blk.cell h 12 rfl, Blk.cell h 13 rfl, Blk.cell h 14 rfl, Blk.cell h 15 rfl, Blk.cell h 16 rfl, Blk.cell h 17 rfl, Blk.cell h 18 rfl⟩
theorem IsOM.frz {w : World} {b : Nat} {o : OM} (h : IsOM w b o) : w.frozen? ⟨b, 0, none⟩ = false ∧ w.frozen? ⟨b, 1, none⟩ = false ∧ w.frozen? ⟨b, 2, none⟩ = false ∧ w.frozen? ⟨b, 3, none⟩ = false ∧ w.frozen? ⟨b, 4, none⟩ = false ∧ w.frozen? ⟨b, 5, none⟩ = false ∧ w.frozen? ⟨b, 6, none⟩ = false ∧ w.frozen? ⟨b, 7, none⟩ = false ∧ w.frozen? ⟨b, 8, none⟩ = false ∧ w.frozen? ⟨b, 9, none⟩ = false ∧ w.frozen? ⟨b, 10, none⟩ = false ∧ w.frozen? ⟨b, 11, none⟩ = false ∧ w.frozen? ⟨b, 12, none⟩ = false ∧ w.frozen? ⟨b, 13, none⟩ = false ∧ w.frozen? ⟨b, 14, none⟩ = false ∧ w.frozen? ⟨b, 15, none⟩ = false ∧ w.frozen? ⟨b, 16, none⟩ = false ∧ w.frozen? ⟨b, 17, none⟩ = false ∧ w.frozen? ⟨b, 18, none⟩ = false :=
  ⟨Blk.free h 0, Blk.free h 1, Blk.free h 2, Blk.free h 3, Blk.free h 4, Blk.free h 5, Blk.free h 6, Blk.free h 7, Blk.free h 8, Blk.free h 9, Blk.free h 10, Blk.free h 11, Blk.free h 12, Blk.free h 13, Blk.free h 14, Blk.free h 15, Blk.free h 16, Blk.free h 17, Blk.free h 18⟩
theorem IsOM.new {w : World} {b : Nat} (o : OM) (h : b = w.heap.size) : IsOM (w.alloc (.cells #[.int .i64 o.t, .int .i64 o.a, .int .i64 o.q, .int .i64 o.near, .int .i64 o.there, .int .i64 o.bit, .bool o.asks, .int .i64 o.p.to, .int .i64 o.p.fr, .bool o.p.re, .int .i64 o.p.form, .int .i64 o.p.kind, .int .i64 o.p.ns, .int .i64 o.p.nr, .bool o.p.poll, .slice o.p.info.A o.p.info.n o.p.info.c, .int .i64 o.sent, .int .i64 o.left, .int .i64 o.wait] 57)) b o := Blk.newAt _ _ _ _ h
theorem IsOM.fr {w w' : World} {b : Nat} {o : OM} (h : IsOM w b o) {L : List Nat} (k : Fr L w w') (hn : b ∉ L) : IsOM w' b o := Blk.fr h k hn
theorem IsOM.lt {w : World} {b : Nat} {o : OM} (h : IsOM w b o) : b < w.heap.size := Blk.lt h
theorem IsOM.f {w : World} {b : Nat} {o : OM} (h : IsOM w b o) (i : Nat) : w.frozen? ⟨b, i, none⟩ = false := Blk.free h i
theorem IsOM.al {w : World} {b : Nat} {o : OM} (h : IsOM w b o) (x : Obj) : IsOM (w.alloc x) b o := Blk.alloc h x
theorem IsOM.far {w : World} {b : Nat} {o : OM} (h : IsOM w b o) {p : Addr} (hp : b ≠ p.block) (v : Value) : IsOM (w.setCell p v) b o := Blk.far h hp v
theorem IsOM.drewN {w : World} {b : Nat} {o : OM} (h : IsOM w b o) (n : Nat) : IsOM (w.drewN n) b o := h
theorem IsOM.s_t {w : World} {b : Nat} {o : OM} (h : IsOM w b o) (x : Int) : IsOM (w.setCell ⟨b, 0, none⟩ (.int .i64 x)) b { o with t := x } := Blk.set h 0 _ rfl
theorem IsOM.s_a {w : World} {b : Nat} {o : OM} (h : IsOM w b o) (x : Int) : IsOM (w.setCell ⟨b, 1, none⟩ (.int .i64 x)) b { o with a := x } := Blk.set h 1 _ rfl
theorem IsOM.s_q {w : World} {b : Nat} {o : OM} (h : IsOM w b o) (x : Int) : IsOM (w.setCell ⟨b, 2, none⟩ (.int .i64 x)) b { o with q := x } := Blk.set h 2 _ rfl
theorem IsOM.s_near {w : World} {b : Nat} {o : OM} (h : IsOM w b o) (x : Int) : IsOM (w.setCell ⟨b, 3, none⟩ (.int .i64 x)) b { o with near := x } := Blk.set h 3 _ rfl
theorem IsOM.s_there {w : World} {b : Nat} {o : OM} (h : IsOM w b o) (x : Int) : IsOM (w.setCell ⟨b, 4, none⟩ (.int .i64 x)) b { o with there := x } := Blk.set h 4 _ rfl
theorem IsOM.s_bit {w : World} {b : Nat} {o : OM} (h : IsOM w b o) (x : Int) : IsOM (w.setCell ⟨b, 5, none⟩ (.int .i64 x)) b { o with bit := x } := Blk.set h 5 _ rfl
theorem IsOM.s_asks {w : World} {b : Nat} {o : OM} (h : IsOM w b o) (x : Bool) : IsOM (w.setCell ⟨b, 6, none⟩ (.bool x)) b { o with asks := x } := Blk.set h 6 _ rfl
theorem IsOM.s_p_to {w : World} {b : Nat} {o : OM} (h : IsOM w b o) (x : Int) : IsOM (w.setCell ⟨b, 7, none⟩ (.int .i64 x)) b { o with p.to := x } := Blk.set h 7 _ rfl
theorem IsOM.s_p_fr {w : World} {b : Nat} {o : OM} (h : IsOM w b o) (x : Int) : IsOM (w.setCell ⟨b, 8, none⟩ (.int .i64 x)) b { o with p.fr := x } := Blk.set h 8 _ rfl
theorem IsOM.s_p_re {w : World} {b : Nat} {o : OM} (h : IsOM w b o) (x : Bool) : IsOM (w.setCell ⟨b, 9, none⟩ (.bool x)) b { o with p.re := x } := Blk.set h 9 _ rfl
theorem IsOM.s_p_form {w : World} {b : Nat} {o : OM} (h : IsOM w b o) (x : Int) : IsOM (w.setCell ⟨b, 10, none⟩ (.int .i64 x)) b { o with p.form := x } := Blk.set h 10 _ rfl
theorem IsOM.s_p_kind {w : World} {b : Nat} {o : OM} (h : IsOM w b o) (x : Int) : IsOM (w.setCell ⟨b, 11, none⟩ (.int .i64 x)) b { o with p.kind := x } := Blk.set h 11 _ rfl
theorem IsOM.s_p_ns {w : World} {b : Nat} {o : OM} (h : IsOM w b o) (x : Int) : IsOM (w.setCell ⟨b, 12, none⟩ (.int .i64 x)) b { o with p.ns := x } := Blk.set h 12 _ rfl
theorem IsOM.s_p_nr {w : World} {b : Nat} {o : OM} (h : IsOM w b o) (x : Int) : IsOM (w.setCell ⟨b, 13, none⟩ (.int .i64 x)) b { o with p.nr := x } := Blk.set h 13 _ rfl
theorem IsOM.s_p_poll {w : World} {b : Nat} {o : OM} (h : IsOM w b o) (x : Bool) : IsOM (w.setCell ⟨b, 14, none⟩ (.bool x)) b { o with p.poll := x } := Blk.set h 14 _ rfl
theorem IsOM.s_p_info {w : World} {b : Nat} {o : OM} (h : IsOM w b o) (x : Sl) : IsOM (w.setCell ⟨b, 15, none⟩ (.slice x.A x.n x.c)) b { o with p.info := x } := Blk.set h 15 _ rfl
theorem IsOM.s_sent {w : World} {b : Nat} {o : OM} (h : IsOM w b o) (x : Int) : IsOM (w.setCell ⟨b, 16, none⟩ (.int .i64 x)) b { o with sent := x } := Blk.set h 16 _ rfl
theorem IsOM.s_left {w : World} {b : Nat} {o : OM} (h : IsOM w b o) (x : Int) : IsOM (w.setCell ⟨b, 17, none⟩ (.int .i64 x)) b { o with left := x } := Blk.set h 17 _ rfl
theorem IsOM.s_wait {w : World} {b : Nat} {o : OM} (h : IsOM w b o) (x : Int) : IsOM (w.setCell ⟨b, 18, none⟩ (.int .i64 x)) b { o with wait := x } := Blk.set h 18 _ rfl
def PM.nil : PM := ⟨0, 0, false, 0, 0, 0, 0, false, Sl.nil⟩
def OM.new (t a q near there : Int) : OM := ⟨t, a, q, near, there, 0, false, PM.nil, 0, 0, 0⟩
abbrev IsO := IsOM

theorem once_New_yes (t a q n m : Int) (w : World) (h : okO t a q) (hn : sapB n = true) (hm : sapB m = true) :
    Calls Try.prog 8 #[oV t a q, .int .i64 n, .int .i64 m] w fun e w' =>
      ∃ b, e = .returned (.tuple #[.pointer (some ⟨b, 0, none⟩), .int .i64 0]) ∧ w.heap.size ≤ b ∧ IsO w' b (OM.new t a q n m) ∧ Fr [] w w' := by
  obtain ⟨h1, h2, h3, h4, h5, h6⟩ := h
  have d1 : decide (t < 1) = false := by simp; omega
  have d2 : decide (100 < t) = false := by simp; omega
  have d3 : decide (a < 1) = false := by simp; omega
  have d4 : decide (10000 < a) = false := by simp; omega
  have d5 : decide (q < 0) = false := by simp; omega
  have d6 : decide (10000 < q) = false := by simp; omega
  unfold oV
  go_enter Try.func8, Try.ntmps8
  go_wp2_with (go_at_call 21; refine (once_sap _ _).mono ?_; rintro e w' ⟨rfl, rfl⟩)
  go_ret2
  refine ⟨_, rfl, by omega, ?_, ((Fr.refl _ _).alloc _).alloc _⟩
  have hb := Blk.new (w.alloc (.cells #[.int .i64 t, .int .i64 a, .int .i64 q] 29)) (OM.new t a q n m).cells 57
  rw [World.size_alloc] at hb
  exact hb

theorem once_New_no (t a q n m : Int) (w : World) (h : ¬ okO t a q) :
    Calls Try.prog 8 #[oV t a q, .int .i64 n, .int .i64 m] w fun e w' => e = .returned (.tuple #[.pointer none, .int .i64 1]) ∧ Fr [] w w' := by
  unfold oV
  unfold okO at h
  by_cases h1 : t < 1
  · have d1 : decide (t < 1) = true := by simp; omega
    go_enter Try.func8, Try.ntmps8
    go_wp2_with fail
    go_ret2
    exact ⟨rfl, (Fr.refl _ _).alloc _⟩
  have d1 : decide (t < 1) = false := by simp; omega
  by_cases h2 : 100 < t
  · have d2 : decide (100 < t) = true := by simp; omega
    go_enter Try.func8, Try.ntmps8
    go_wp2_with fail
    go_ret2
    exact ⟨rfl, (Fr.refl _ _).alloc _⟩
  have d2 : decide (100 < t) = false := by simp; omega
  by_cases h3 : a < 1
  · have d3 : decide (a < 1) = true := by simp; omega
    go_enter Try.func8, Try.ntmps8
    go_wp2_with fail
    go_ret2
    exact ⟨rfl, (Fr.refl _ _).alloc _⟩
  have d3 : decide (a < 1) = false := by simp; omega
  by_cases h4 : 10000 < a
  · have d4 : decide (10000 < a) = true := by simp; omega
    go_enter Try.func8, Try.ntmps8
    go_wp2_with fail
    go_ret2
    exact ⟨rfl, (Fr.refl _ _).alloc _⟩
  have d4 : decide (10000 < a) = false := by simp; omega
  by_cases h5 : q < 0
  · have d5 : decide (q < 0) = true := by simp; omega
    go_enter Try.func8, Try.ntmps8
    go_wp2_with fail
    go_ret2
    exact ⟨rfl, (Fr.refl _ _).alloc _⟩
  have d5 : decide (q < 0) = false := by simp; omega
  have d6 : decide (10000 < q) = true := by simp; omega
  go_enter Try.func8, Try.ntmps8
  go_wp2_with fail
  go_ret2
  exact ⟨rfl, (Fr.refl _ _).alloc _⟩

theorem b_sum1 (x : Int) (b : Nat) (w : World) (hs : -1000000000000000000 ≤ x ∧ x ≤ 1000000000000000000) (hc : w.cell? ⟨b, 0, none⟩ = some (.int .i64 x)) :
    Calls Try.prog 22 #[.slice (some ⟨b, 0, none⟩) 1 1] w fun e w' => e = .returned (.int .i64 x) ∧ w = w' := by
  have := b_sum [x] b w ⟨by simp, fun y hy => by simp at hy; subst hy; exact hs⟩ (fun i h => by simp at h; subst h; exact hc)
  simpa using this

/-- How long a request may take. -/
theorem bound_Asks_no (t a q : Int) (w : World) (h : ¬ okO t a q) :
    Calls Try.prog 10 #[oV t a q] w fun e w' => e = .returned (.int .i64 0) ∧ Fr [] w w' := by
  unfold oV
  go_enter Try.func10, Try.ntmps10
  go_wp2_with fail
  refine (once_New_no t a q 2 2 _ h).mono ?_; rintro e w1 ⟨rfl, f1⟩
  go_wp2
  go_ret
  exact ⟨rfl, ((Fr.refl [] w).alloc _).tr f1⟩

set_option maxHeartbeats 2000000 in
theorem bound_Asks_yes (t a q : Int) (w : World) (h : okO t a q) :
    Calls Try.prog 10 #[oV t a q] w fun e w' => e = .returned (.int .i64 (t * a)) ∧ Fr [] w w' := by
  have h' := h
  obtain ⟨h1, h2, h3, h4, h5, h6⟩ := h'
  have m1 : t * a ≤ 100 * 10000 := Int.mul_le_mul h2 h4 (by omega) (by omega)
  have m2 : 0 ≤ t * a := Int.mul_nonneg (by omega) (by omega)
  have hw : IntKind.i64.wrap (t * a) = t * a := IntWalk.i64_in _ (by omega)
  unfold oV
  go_enter Try.func10, Try.ntmps10
  have hb := Blk.new w #[.int .i64 t, .int .i64 a, .int .i64 q] 29
  go_wp2_with fail
  refine (once_New_yes t a q 2 2 _ h rfl rfl).mono ?_; rintro e w1 ⟨b, rfl, hbb, hO, f1⟩
  have hb1 := hb.fr f1 (by simp)
  have c0 := hb1.cell 0 rfl
  have c1 := hb1.cell 1 rfl
  simp only [List.getElem_toArray, List.getElem_cons_zero, List.getElem_cons_succ] at c0 c1
  go_wp2
  have k0 : ∀ wx, Fr [] w1 wx → wx.cell? ⟨w.heap.size, 0, none⟩ = some (.int .i64 t) := fun wx hf => hf.cell c0 (by simp)
  have k1 : ∀ wx, Fr [] w1 wx → wx.cell? ⟨w.heap.size, 1, none⟩ = some (.int .i64 a) := fun wx hf => hf.cell c1 (by simp)
  refine wp_region_keeps [] [Is (.pointer (some ⟨w.heap.size, 0, none⟩)), Is (.int .i64 t), IsSl [] #[.int .i64 t] 3 1, Is (.int .i64 t), Is (.pointer (some ⟨w.heap.size, 1, none⟩)), Is (.int .i64 a), IsSl [] #[.int .i64 a] 3 1, Is (.int .i64 a), Is (.int .i64 (t * a)), Is (.int .i64 (t * a))] (by kernel_rfl) (by kernel_rfl) (by kernel_rfl) (by kernel_rfl) ?hV ?hS ?hD
  case hV =>
    repeat (first | exact trivial | exact Is.keeps _ | exact Any.keeps | exact IsSl.keeps _ _ _ | refine And.intro ?_ ?_)
  case hS =>
    (repeat' (first | exact trivial | refine And.intro ?_ ?_))
    · intro ac wx hf hs hp K hK
      simp only [waits, holdsA, nth, Is, Any, List.filter_cons, List.filter_nil, List.map_cons, List.map_nil, Region.binds, if_true, true_and, and_true, Nat.reduceAdd, List.getElem?_cons_zero, List.getElem?_cons_succ, Option.bind_some, Array.getD_eq_getD_getElem?] at hp
      have hs1 := hs 1 (by kernel_rfl)
      simp only [Array.getD_eq_getD_getElem?, List.getElem?_toArray, List.getElem?_cons_succ, List.getElem?_cons_zero, Option.getD_some] at hs1
      clear hs
      clear hf
      (try simp only [hp])
      go_simp
      try dsimp only
      refine hK.out _ _ ?_ ?_
      · ((repeat (first | (with_reducible exact Fr.refl _ _) | (with_reducible assumption) | (with_reducible refine Fr.drew ?_) | (with_reducible refine Fr.drewN ?_ _) | (with_reducible refine Fr.alloc ?_ _) | (with_reducible refine Fr.setL ?_ _ _ _ ?_) | (focus (refine Or.inl ?_; simp; done)) | (focus (refine Or.inr ?_; simp; done)) | (focus (refine Or.inr ?_; simp; omega)) | (focus (refine Or.inr ?_; omega)))); done)
      · simp only [nth]
        first | (unfold Is; rfl) | (unfold Any; exact trivial) | exact IsSl.new _ _ _ _ | assumption
    · intro ac wx hf hs hp K hK
      simp only [waits, holdsA, nth, Is, Any, List.filter_cons, List.filter_nil, List.map_cons, List.map_nil, Region.binds, if_true, true_and, and_true, Nat.reduceAdd, List.getElem?_cons_zero, List.getElem?_cons_succ, Option.bind_some, Array.getD_eq_getD_getElem?] at hp
      clear hs
      have cx := k0 wx hf
      clear hf
      (try simp only [hp])
      go_simp
      try dsimp only
      refine hK.out _ _ ?_ ?_
      · ((repeat (first | (with_reducible exact Fr.refl _ _) | (with_reducible assumption) | (with_reducible refine Fr.drew ?_) | (with_reducible refine Fr.drewN ?_ _) | (with_reducible refine Fr.alloc ?_ _) | (with_reducible refine Fr.setL ?_ _ _ _ ?_) | (focus (refine Or.inl ?_; simp; done)) | (focus (refine Or.inr ?_; simp; done)) | (focus (refine Or.inr ?_; simp; omega)) | (focus (refine Or.inr ?_; omega)))); done)
      · simp only [nth]
        first | (unfold Is; rfl) | (unfold Any; exact trivial) | exact IsSl.new _ _ _ _ | assumption
    · intro ac wx hf hs hp K hK
      simp only [waits, holdsA, nth, Is, Any, List.filter_cons, List.filter_nil, List.map_cons, List.map_nil, Region.binds, if_true, true_and, and_true, Nat.reduceAdd, List.getElem?_cons_zero, List.getElem?_cons_succ, Option.bind_some, Array.getD_eq_getD_getElem?] at hp
      clear hs
      clear hf
      (try simp only [hp])
      go_simp
      try dsimp only
      refine hK.out _ _ ?_ ?_
      · ((repeat (first | (with_reducible exact Fr.refl _ _) | (with_reducible assumption) | (with_reducible refine Fr.drew ?_) | (with_reducible refine Fr.drewN ?_ _) | (with_reducible refine Fr.alloc ?_ _) | (with_reducible refine Fr.setL ?_ _ _ _ ?_) | (focus (refine Or.inl ?_; simp; done)) | (focus (refine Or.inr ?_; simp; done)) | (focus (refine Or.inr ?_; simp; omega)) | (focus (refine Or.inr ?_; omega)))); done)
      · simp only [nth]
        first | (unfold Is; rfl) | (unfold Any; exact trivial) | exact IsSl.new _ _ _ _ | assumption
    · intro ac wx hf hs hp K hK
      simp only [waits, holdsA, nth, Is, Any, List.filter_cons, List.filter_nil, List.map_cons, List.map_nil, Region.binds, if_true, true_and, and_true, Nat.reduceAdd, List.getElem?_cons_zero, List.getElem?_cons_succ, Option.bind_some, Array.getD_eq_getD_getElem?] at hp
      clear hs
      obtain ⟨b, e, hbl, -⟩ := hp
      go_simp
      go_at_call 22
      refine (b_sum1 t _ _ (by omega) (hbl.cell 0 rfl)).mono ?_
      rintro e w' ⟨rfl, rfl⟩
      try dsimp only
      refine hK.out _ _ ?_ ?_
      · ((repeat (first | (with_reducible exact Fr.refl _ _) | (with_reducible assumption) | (with_reducible refine Fr.drew ?_) | (with_reducible refine Fr.drewN ?_ _) | (with_reducible refine Fr.alloc ?_ _) | (with_reducible refine Fr.setL ?_ _ _ _ ?_) | (focus (refine Or.inl ?_; simp; done)) | (focus (refine Or.inr ?_; simp; done)) | (focus (refine Or.inr ?_; simp; omega)) | (focus (refine Or.inr ?_; omega)))); done)
      · simp only [nth]
        first | (unfold Is; rfl) | (unfold Any; exact trivial) | exact IsSl.new _ _ _ _ | assumption
    · intro ac wx hf hs hp K hK
      simp only [waits, holdsA, nth, Is, Any, List.filter_cons, List.filter_nil, List.map_cons, List.map_nil, Region.binds, if_true, true_and, and_true, Nat.reduceAdd, List.getElem?_cons_zero, List.getElem?_cons_succ, Option.bind_some, Array.getD_eq_getD_getElem?] at hp
      have hs1 := hs 1 (by kernel_rfl)
      simp only [Array.getD_eq_getD_getElem?, List.getElem?_toArray, List.getElem?_cons_succ, List.getElem?_cons_zero, Option.getD_some] at hs1
      clear hs
      clear hf
      (try simp only [hp])
      go_simp
      try dsimp only
      refine hK.out _ _ ?_ ?_
      · ((repeat (first | (with_reducible exact Fr.refl _ _) | (with_reducible assumption) | (with_reducible refine Fr.drew ?_) | (with_reducible refine Fr.drewN ?_ _) | (with_reducible refine Fr.alloc ?_ _) | (with_reducible refine Fr.setL ?_ _ _ _ ?_) | (focus (refine Or.inl ?_; simp; done)) | (focus (refine Or.inr ?_; simp; done)) | (focus (refine Or.inr ?_; simp; omega)) | (focus (refine Or.inr ?_; omega)))); done)
      · simp only [nth]
        first | (unfold Is; rfl) | (unfold Any; exact trivial) | exact IsSl.new _ _ _ _ | assumption
    · intro ac wx hf hs hp K hK
      simp only [waits, holdsA, nth, Is, Any, List.filter_cons, List.filter_nil, List.map_cons, List.map_nil, Region.binds, if_true, true_and, and_true, Nat.reduceAdd, List.getElem?_cons_zero, List.getElem?_cons_succ, Option.bind_some, Array.getD_eq_getD_getElem?] at hp
      clear hs
      have cx := k1 wx hf
      clear hf
      (try simp only [hp])
      go_simp
      try dsimp only
      refine hK.out _ _ ?_ ?_
      · ((repeat (first | (with_reducible exact Fr.refl _ _) | (with_reducible assumption) | (with_reducible refine Fr.drew ?_) | (with_reducible refine Fr.drewN ?_ _) | (with_reducible refine Fr.alloc ?_ _) | (with_reducible refine Fr.setL ?_ _ _ _ ?_) | (focus (refine Or.inl ?_; simp; done)) | (focus (refine Or.inr ?_; simp; done)) | (focus (refine Or.inr ?_; simp; omega)) | (focus (refine Or.inr ?_; omega)))); done)
      · simp only [nth]
        first | (unfold Is; rfl) | (unfold Any; exact trivial) | exact IsSl.new _ _ _ _ | assumption
    · intro ac wx hf hs hp K hK
      simp only [waits, holdsA, nth, Is, Any, List.filter_cons, List.filter_nil, List.map_cons, List.map_nil, Region.binds, if_true, true_and, and_true, Nat.reduceAdd, List.getElem?_cons_zero, List.getElem?_cons_succ, Option.bind_some, Array.getD_eq_getD_getElem?] at hp
      clear hs
      clear hf
      (try simp only [hp])
      go_simp
      try dsimp only
      refine hK.out _ _ ?_ ?_
      · ((repeat (first | (with_reducible exact Fr.refl _ _) | (with_reducible assumption) | (with_reducible refine Fr.drew ?_) | (with_reducible refine Fr.drewN ?_ _) | (with_reducible refine Fr.alloc ?_ _) | (with_reducible refine Fr.setL ?_ _ _ _ ?_) | (focus (refine Or.inl ?_; simp; done)) | (focus (refine Or.inr ?_; simp; done)) | (focus (refine Or.inr ?_; simp; omega)) | (focus (refine Or.inr ?_; omega)))); done)
      · simp only [nth]
        first | (unfold Is; rfl) | (unfold Any; exact trivial) | exact IsSl.new _ _ _ _ | assumption
    · intro ac wx hf hs hp K hK
      simp only [waits, holdsA, nth, Is, Any, List.filter_cons, List.filter_nil, List.map_cons, List.map_nil, Region.binds, if_true, true_and, and_true, Nat.reduceAdd, List.getElem?_cons_zero, List.getElem?_cons_succ, Option.bind_some, Array.getD_eq_getD_getElem?] at hp
      clear hs
      obtain ⟨⟨b, e, hbl, -⟩, -⟩ := hp
      go_simp
      go_at_call 22
      refine (b_sum1 a _ _ (by omega) (hbl.cell 0 rfl)).mono ?_
      rintro e w' ⟨rfl, rfl⟩
      try dsimp only
      refine hK.out _ _ ?_ ?_
      · ((repeat (first | (with_reducible exact Fr.refl _ _) | (with_reducible assumption) | (with_reducible refine Fr.drew ?_) | (with_reducible refine Fr.drewN ?_ _) | (with_reducible refine Fr.alloc ?_ _) | (with_reducible refine Fr.setL ?_ _ _ _ ?_) | (focus (refine Or.inl ?_; simp; done)) | (focus (refine Or.inr ?_; simp; done)) | (focus (refine Or.inr ?_; simp; omega)) | (focus (refine Or.inr ?_; omega)))); done)
      · simp only [nth]
        first | (unfold Is; rfl) | (unfold Any; exact trivial) | exact IsSl.new _ _ _ _ | assumption
    · intro ac wx hf hs hp K hK
      simp only [waits, holdsA, nth, Is, Any, List.filter_cons, List.filter_nil, List.map_cons, List.map_nil, Region.binds, if_true, true_and, and_true, Nat.reduceAdd, List.getElem?_cons_zero, List.getElem?_cons_succ, Option.bind_some, Array.getD_eq_getD_getElem?] at hp
      clear hs
      clear hf
      (try simp only [hp])
      go_simp
      try dsimp only
      refine hK.out _ _ ?_ ?_
      · ((repeat (first | (with_reducible exact Fr.refl _ _) | (with_reducible assumption) | (with_reducible refine Fr.drew ?_) | (with_reducible refine Fr.drewN ?_ _) | (with_reducible refine Fr.alloc ?_ _) | (with_reducible refine Fr.setL ?_ _ _ _ ?_) | (focus (refine Or.inl ?_; simp; done)) | (focus (refine Or.inr ?_; simp; done)) | (focus (refine Or.inr ?_; simp; omega)) | (focus (refine Or.inr ?_; omega)))); done)
      · simp only [nth]
        first | (unfold Is; rfl) | (unfold Any; exact trivial) | exact IsSl.new _ _ _ _ | assumption
    · intro ac wx hf hs hp K hK
      simp only [waits, holdsA, nth, Is, Any, List.filter_cons, List.filter_nil, List.map_cons, List.map_nil, Region.binds, if_true, true_and, and_true, Nat.reduceAdd, List.getElem?_cons_zero, List.getElem?_cons_succ, Option.bind_some, Array.getD_eq_getD_getElem?] at hp
      clear hs
      clear hf
      (try simp only [hp])
      go_simp
      try dsimp only
      refine hK.out _ _ ?_ ?_
      · ((repeat (first | (with_reducible exact Fr.refl _ _) | (with_reducible assumption) | (with_reducible refine Fr.drew ?_) | (with_reducible refine Fr.drewN ?_ _) | (with_reducible refine Fr.alloc ?_ _) | (with_reducible refine Fr.setL ?_ _ _ _ ?_) | (focus (refine Or.inl ?_; simp; done)) | (focus (refine Or.inr ?_; simp; done)) | (focus (refine Or.inr ?_; simp; omega)) | (focus (refine Or.inr ?_; omega)))); done)
      · simp only [nth]
        first | (unfold Is; rfl) | (unfold Any; exact trivial) | exact IsSl.new _ _ _ _ | assumption
  case hD =>
    intro x wx hf hp
    simp only [fill, List.setIfInBounds_toArray, List.set_cons_zero, List.set_cons_succ, Nat.reduceAdd, Act.put]
    simp only [List.length_cons, List.length_nil, Nat.reduceAdd, List.range_eq_range', List.range'_succ, List.range'_zero, Nat.zero_add, Nat.add_zero, holds, nth, Is, Any, true_and, and_true] at hp
    simp only [hp]
    go_wp2
    go_ret
    exact ⟨rfl, (((Fr.refl [] w).alloc _).tr f1).tr hf⟩

theorem once_kind (n : Int) (w : World) (h0 : 0 ≤ n) (h1 : n ≤ 1) :
    Calls Try.prog 23 #[.int .i64 n] w fun e w' => e = .returned (.int .i64 (8 + n)) ∧ w = w' := by
  have hw : IntKind.i64.wrap (8 + n) = 8 + n := IntWalk.i64_in _ (by omega)
  go_enter Try.func23, Try.ntmps23
  go_wp2
  go_ret
  exact ⟨rfl, rfl⟩

theorem isnil_b (A : Addr) (n c : Nat) (w : World) : (binOp BinOp.eql 32 (Value.slice (some A) n c) (Value.slice none 0 0)).run Try.prog w = .ok (.bool false) w := by kernel_rfl
theorem isnil_b0 (w : World) : (binOp BinOp.eql 32 (Value.slice none 0 0) (Value.slice none 0 0)).run Try.prog w = .ok (.bool true) w := by kernel_rfl
attribute [local go_sem] isnil_b isnil_b0
theorem bytes_Clone_nil (w : World) :
    Calls Try.prog 24 #[.slice none 0 0] w fun e w' => e = .returned (.slice none 0 0) ∧ w = w' := by
  go_enter Try.func24, Try.ntmps24
  go_wp2
  go_ret
  exact ⟨rfl, rfl⟩

theorem bytes_Clone (w : World) (A : Addr) (cap : Nat) (l : List Int) (h : ArgInts .u8 w (some A) l) (hn : l.length ≤ 140737488355328) :
    Calls Try.prog 24 #[.slice (some A) l.length cap] w fun e w' => ∃ v, e = .returned v ∧ Ints .u8 w' v l ∧ Young w.heap.size v ∧ Fr [] w w' := by
  go_enter Try.func24, Try.ntmps24
  have hi := info_parts (show (Try.prog.info? 5).map (fun i => (i.zero, i.size, i.bytes)) = some (some (.int .u8 0), 1, 1) by kernel_rfl)
  obtain ⟨i0, hi, hz0, hz1, hz2⟩ := hi
  have hun : Try.prog.underlying 32 = some (.slice 5) := Try.underlying32
  go_wp2_with (at_builtin; refine wpList_append_own _ rfl _ _ 32 rfl w.heap.size 5 i0 (.int .u8 0) 1 1 hun hi hz0 hz1 hz2 rfl (by decide) _ 0 [] rfl (World.ownsRow_made _ #[] 0 (Nat.le_refl _) (Nat.zero_le _) rfl) A l.length cap (l.map (Value.int .u8)) rfl ?c1 ?c2 ints_one ?c4 ?c5 ?c6 ?_)
  case c1 => simp
  case c2 => exact (h.fr ((Fr.refl [] w).alloc _)).news
  case c4 => unfold maxLen; omega
  case c5 => omega
  case c6 => simp
  intro v' w' hown hgrow _
  go_wp2
  go_ret
  refine ⟨_, rfl, ?_, Young.own hown, ?_⟩
  · exact Ints.own (by simpa using hown) h.1
  · exact ((Fr.refl [] w).alloc _).grown hgrow (fun k hk => by simp [Value.ownBlock] at hk; exact .inr (by omega))

/-- Whichever slice: its copy. -/
theorem bytes_Clone_any (w : World) (v : Value) (l : List Int) (h : Ints .u8 w v l) (hn : l.length ≤ 140737488355328) :
    Calls Try.prog 24 #[v] w fun e w' => ∃ v', e = .returned v' ∧ Ints .u8 w' v' l ∧ Young w.heap.size v' ∧ Fr [] w w' := by
  rcases h with ⟨rfl, rfl⟩ | ⟨A, cap, rfl, hA⟩
  · refine (bytes_Clone_nil w).mono ?_
    rintro e w' ⟨rfl, rfl⟩
    exact ⟨_, rfl, Ints.nil _ _, Young.nil _, Fr.refl _ _⟩
  · exact bytes_Clone w A cap l hA hn
end Go.Proofs.Ytaefahbgeokopaa
