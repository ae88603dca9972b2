
/- Package plain: those who hear a PDU, one by one. -/
import Derived.Test.YtgmpikaibeenmaaPlainB
namespace Go.Proofs.Ytgmpikaibeenmaa
open Go.RowKit
set_option linter.unusedVariables false
set_option linter.unusedSimpArgs false
set_option maxRecDepth 100000

/-- Rows of whole numbers lie as they lay. -/
def KeepI (w w' : World) : Prop := w.heap.size ≤ w'.heap.size ∧ ∀ (b : Nat) (cs : Array Value) (f : Nat × Nat), w.heap[b]? = some (Obj.cells cs 3 f) → w'.heap[b]? = some (Obj.cells cs 3 f)
theorem KeepI.refl (w : World) : KeepI w w := ⟨Nat.le_refl _, fun _ _ _ h => h⟩
theorem KeepI.trans {a b c : World} (h : KeepI a b) (k : KeepI b c) : KeepI a c := ⟨Nat.le_trans h.1 k.1, fun q cs f e => k.2 q cs f (h.2 q cs f e)⟩
theorem KeepI.put (W : World) (l : Nat) (o o' : Obj) (ho : W.heap[l]? = some o) (hc : o.isCells = false) : KeepI W (W.putObj l o') := by
  refine ⟨by simp [World.putObj], fun b cs f e => ?_⟩
  rw [World.putObj_heap_other (fun h => by subst h; rw [ho] at e; cases e; cases hc)]
  exact e
theorem KeepI.fr {L : List Nat} {w w' : World} (f : Fr L w w') (hL : ∀ x ∈ L, ∀ (cs : Array Value) (fz : Nat × Nat), w.heap[x]? ≠ some (Obj.cells cs 3 fz)) : KeepI w w' :=
  ⟨f.size, fun b cs fz e => f.keeps e fun hm => hL b hm cs fz e⟩
theorem KeepI.ints {w w' : World} {s : Sl} {l : List Int} {n : Nat} (k : KeepI w w') (h : w.ownsRow 0 3 1 s.v n (l.map (Value.int .i64))) : w'.ownsRow 0 3 1 s.v n (l.map (Value.int .i64)) :=
  ⟨h.1, h.2.imp id fun ⟨g, cap, cur, e, hg, hb, r⟩ => ⟨g, cap, cur, e, hg, k.2 _ _ _ hb, r⟩⟩

def hsOf (m : List AE) (to : Int) (st : Bool) : List Int := (if st = true ∧ (to = 0 ∨ to = 255) then [0] else []) ++ hearA m to
/-- What the iterator finds. -/
structure HCore (w0 : World) (p : Nat) (m : List AE) (to : Int) (st : Bool) (b5 b4 b3 : Nat) (W : World) : Prop where
  at_ : AtM w0 W p m
  c5 : Blk W b5 #[.bool st] 4
  c4 : Blk W b4 #[.int .i64 to] 3
  c3 : Blk W b3 #[.pointer (some ⟨p, 0, none⟩)] 23
theorem HCore.on {w0 W W' : World} {p : Nat} {m : List AE} {to : Int} {st : Bool} {b5 b4 b3 : Nat} (h : HCore w0 p m to st b5 b4 b3 W) (f : Fr [] W W') : HCore w0 p m to st b5 b4 b3 W' := ⟨h.at_.on f, h.c5.fr f (by simp), h.c4.fr f (by simp), h.c3.fr f (by simp)⟩
theorem CallsIn.of {P : Program} {f : Nat} {args : Array Value} {w : World} {post : Ending → World → Prop} (h : Calls P f args w post) : CallsIn Fence.wide 0 P f args w post := (callsIn_wide (n := 0)).2 h

set_option maxHeartbeats 2000000 in
theorem hear_iter (w0 : World) (p : Nat) (m : List AE) (to : Int) (st : Bool) (b5 b4 b3 : Nat) (hm : m.length ≤ 16) (l : Nat) (J : Nat → World → Prop) (hJ : ∀ s W, J s W → HCore w0 p m to st b5 b4 b3 W) (hd : ∀ s W W', J s W → Fr [] W W' → J s W')
    (hY : ∀ s W, J s W → s < (hsOf m to st).length → YieldAt Fence.wide 0 Try.prog l #[.int .i64 ((hsOf m to st)[s]?.getD 0)] W fun e W' => e = .returned (.bool true) ∧ J (s + 1) W' ∧ KeepI W W') (W : World) (h0 : J 0 W) :
    CallsIn Fence.wide 0 Try.prog 46 #[.func (.yield l) #[] #[], .pointer (some ⟨b5, 0, none⟩), .pointer (some ⟨b4, 0, none⟩), .pointer (some ⟨b3, 0, none⟩)] W fun e W' => (∃ v, e = .returned v) ∧ ∃ s, ¬ s < (hsOf m to st).length ∧ J s W' := by
  have hh := hJ _ _ h0
  have c5 := hh.c5.cell 0 rfl
  have c4 := hh.c4.cell 0 rfl
  have c3 := hh.c3.cell 0 rfl
  simp only [List.getElem_toArray, List.getElem_cons_zero] at c5 c4 c3
  refine callsIn_of_wp Try.func46 rfl trivial ?_ rfl
  simp only [Try.ntmps46, List.size_toArray, List.length_cons, List.length_nil, Nat.reduceAdd, Nat.reduceSub, Array.replicate_succ, Array.replicate_zero, List.push_toArray, List.append_toArray, List.nil_append, List.cons_append]
  by_cases hst : st = true ∧ (to = 0 ∨ to = 255)
  · obtain ⟨rfl, hto⟩ := hst
    have HH := Lib.hid (show hsOf m to true = [0] ++ hearA m to by unfold hsOf; rw [if_pos ⟨rfl, hto⟩])
    have hY0 := hY 0 _ h0 (by rw [HH.out]; simp)
    rw [show (hsOf m to true)[0]?.getD 0 = 0 by rw [HH.out]; rfl] at hY0
    have HY0 := Lib.hid hY0
    clear hY0
    have hb : (to == 0) = true ∨ ((to == 0) = false ∧ (to == 255) = true) := by
      rcases hto with h | h
      · exact .inl (by simpa using h)
      · exact .inr ⟨by simp; omega, by simpa using h⟩
    clear hto
    rcases hb with e0 | ⟨e0, e1⟩
    all_goals
      obtain ⟨fn, tmps, assign, body, hy, hR⟩ := HY0.out
      gi_wp2
      refine ⟨rfl, hR.mono ?_⟩
      rintro e W2 ⟨rfl, hJ2, hKp⟩
      have hh := hJ _ _ hJ2
      have c4 := hh.c4.cell 0 rfl
      have c3 := hh.c3.cell 0 rfl
      simp only [List.getElem_toArray, List.getElem_cons_zero] at c4 c3
      clear h0
      have h0 := hJ2
      clear hJ2
      gi_wp2
      refine ⟨trivial, rfl, CallsIn.of ((Hears_any w0 _ p m _ hh.at_).mono ?_)⟩
      rintro e w1 ⟨s, rfl, hown, hA1, f1⟩
      have hJ1 := hd _ _ _ h0 f1
      have c5 := (hJ _ _ hJ1).c5.cell 0 rfl
      have hlen := hear_le (m := m) to
      have ho0 := own_low hown (Nat.zero_le _)
      have hn := own_n hown
      clear hown hA1
      obtain ⟨sA, sn, sc⟩ := s
      simp only at hn
      subst hn
      gi_wp2
      gi_loopw [6, 25] (fun n i wr => ∃ j : Nat, i = .int .i64 j ∧ j ≤ (hearA m to).length ∧ J (1 + j) wr ∧ wr.ownsRow 0 3 1 (Sl.v ⟨sA, (hearA m to).length, sc⟩) (hearA m to).length ((hearA m to).map (Value.int .i64))) (fun _ i _ => (hearA m to).length - (intOf i).toNat)
      case atStart => exact ⟨0, rfl, by omega, hJ1, ho0⟩
      case round =>
        obtain ⟨j, rfl, hj, hJj, hoj⟩ := hrel
        clear hJ1 ho0 c5
        by_cases hlt : j < (hearA m to).length
        · obtain ⟨b, hA, hc⟩ := own_at (s := ⟨sA, (hearA m to).length, sc⟩) hoj (by omega)
          simp only at hA
          subst hA
          have cx := hc j (.int .i64 (hearA m to)[j]) (by simp [hlt])
          have hx : (hsOf m to true)[1 + j]?.getD 0 = (hearA m to)[j] := by rw [HH.out, Nat.add_comm]; simp [hlt]
          generalize (hearA m to)[j] = x at *
          have hlt' : 1 + j < (hsOf m to true).length := by rw [HH.out]; simp; omega
          have hYj := hY (1 + j) wr hJj hlt'
          rw [hx] at hYj
          have HY := Lib.hid hYj
          clear hx hlt' hYj hc
          obtain ⟨fn, tmps, assign, body, hy, hR⟩ := HY.out
          gi_wp2
          refine ⟨rfl, hR.mono ?_⟩
          rintro e W2 ⟨rfl, hJ2, hKp⟩
          gi_wp2
          go_roundw
          case rel => exact ⟨j + 1, by go_num, by omega, hJ2, hKp.ints (s := ⟨some ⟨b, 0, none⟩, (hearA m to).length, sc⟩) hoj⟩
          case measure => simp [intOf]; omega
        · have hend : ¬ 1 + j < (hsOf m to true).length := by rw [HH.out]; simp; omega
          gi_wp2
          go_end0
          exact ⟨⟨_, rfl⟩, 1 + j, hend, hJj⟩

  · have hhs : hsOf m to st = hearA m to := by unfold hsOf; rw [if_neg hst]; rfl
    have HH := Lib.hid (show hsOf m to st = [] ++ hearA m to by rw [hhs]; rfl)
    clear hhs
    cases st with
    | true =>
      have e0 : (to == 0) = false := by simp at hst; simpa using hst.1
      have e1 : (to == 255) = false := by simp at hst; simpa using hst.2
      clear hst
      refine wpIn_wide.2 ?_
      go_wp2_with fail
      refine (Hears_any w0 _ p m to hh.at_).mono ?_
      rintro e w1 ⟨s, rfl, hown, hA1, f1⟩
      have hJ1 := hd _ _ _ h0 f1
      have c5 := (hJ _ _ hJ1).c5.cell 0 rfl
      have hlen := hear_le (m := m) to
      have ho0 := own_low hown (Nat.zero_le _)
      have hn := own_n hown
      clear hown hA1
      obtain ⟨sA, sn, sc⟩ := s
      simp only at hn
      subst hn
      go_wp2
      refine (wpIn_wide (n := 0)).1 ?_
      gi_loopw [6, 25] (fun n i wr => ∃ j : Nat, i = .int .i64 j ∧ j ≤ (hearA m to).length ∧ J (0 + j) wr ∧ wr.ownsRow 0 3 1 (Sl.v ⟨sA, (hearA m to).length, sc⟩) (hearA m to).length ((hearA m to).map (Value.int .i64))) (fun _ i _ => (hearA m to).length - (intOf i).toNat)
      case atStart => exact ⟨0, rfl, by omega, hJ1, ho0⟩
      case round =>
        obtain ⟨j, rfl, hj, hJj, hoj⟩ := hrel
        clear hJ1 ho0 c5
        by_cases hlt : j < (hearA m to).length
        · obtain ⟨b, hA, hc⟩ := own_at (s := ⟨sA, (hearA m to).length, sc⟩) hoj (by omega)
          simp only at hA
          subst hA
          have cx := hc j (.int .i64 (hearA m to)[j]) (by simp [hlt])
          have hx : (hsOf m to true)[0 + j]?.getD 0 = (hearA m to)[j] := by rw [HH.out]; simp [List.getElem?_append_right, hlt]
          generalize (hearA m to)[j] = x at *
          have hlt' : 0 + j < (hsOf m to true).length := by rw [HH.out]; simp; omega
          have hYj := hY (0 + j) wr hJj hlt'
          rw [hx] at hYj
          have HY := Lib.hid hYj
          clear hx hlt' hYj hc
          obtain ⟨fn, tmps, assign, body, hy, hR⟩ := HY.out
          gi_wp2
          refine ⟨rfl, hR.mono ?_⟩
          rintro e W2 ⟨rfl, hJ2, hKp⟩
          gi_wp2
          go_roundw
          case rel => exact ⟨j + 1, by go_num, by omega, hJ2, hKp.ints (s := ⟨some ⟨b, 0, none⟩, (hearA m to).length, sc⟩) hoj⟩
          case measure => simp [intOf]; omega
        · have hend : ¬ 0 + j < (hsOf m to true).length := by rw [HH.out]; simp; omega
          gi_wp2
          go_end0
          exact ⟨⟨_, rfl⟩, 0 + j, hend, hJj⟩

    | false =>
      clear hst
      refine wpIn_wide.2 ?_
      go_wp2_with fail
      refine (Hears_any w0 _ p m to hh.at_).mono ?_
      rintro e w1 ⟨s, rfl, hown, hA1, f1⟩
      have hJ1 := hd _ _ _ h0 f1
      have c5 := (hJ _ _ hJ1).c5.cell 0 rfl
      have hlen := hear_le (m := m) to
      have ho0 := own_low hown (Nat.zero_le _)
      have hn := own_n hown
      clear hown hA1
      obtain ⟨sA, sn, sc⟩ := s
      simp only at hn
      subst hn
      go_wp2
      refine (wpIn_wide (n := 0)).1 ?_
      gi_loopw [6, 25] (fun n i wr => ∃ j : Nat, i = .int .i64 j ∧ j ≤ (hearA m to).length ∧ J (0 + j) wr ∧ wr.ownsRow 0 3 1 (Sl.v ⟨sA, (hearA m to).length, sc⟩) (hearA m to).length ((hearA m to).map (Value.int .i64))) (fun _ i _ => (hearA m to).length - (intOf i).toNat)
      case atStart => exact ⟨0, rfl, by omega, hJ1, ho0⟩
      case round =>
        obtain ⟨j, rfl, hj, hJj, hoj⟩ := hrel
        clear hJ1 ho0 c5
        by_cases hlt : j < (hearA m to).length
        · obtain ⟨b, hA, hc⟩ := own_at (s := ⟨sA, (hearA m to).length, sc⟩) hoj (by omega)
          simp only at hA
          subst hA
          have cx := hc j (.int .i64 (hearA m to)[j]) (by simp [hlt])
          have hx : (hsOf m to false)[0 + j]?.getD 0 = (hearA m to)[j] := by rw [HH.out]; simp [List.getElem?_append_right, hlt]
          generalize (hearA m to)[j] = x at *
          have hlt' : 0 + j < (hsOf m to false).length := by rw [HH.out]; simp; omega
          have hYj := hY (0 + j) wr hJj hlt'
          rw [hx] at hYj
          have HY := Lib.hid hYj
          clear hx hlt' hYj hc
          obtain ⟨fn, tmps, assign, body, hy, hR⟩ := HY.out
          gi_wp2
          refine ⟨rfl, hR.mono ?_⟩
          rintro e W2 ⟨rfl, hJ2, hKp⟩
          gi_wp2
          go_roundw
          case rel => exact ⟨j + 1, by go_num, by omega, hJ2, hKp.ints (s := ⟨some ⟨b, 0, none⟩, (hearA m to).length, sc⟩) hoj⟩
          case measure => simp [intOf]; omega
        · have hend : ¬ 0 + j < (hsOf m to false).length := by rw [HH.out]; simp; omega
          gi_wp2
          go_end0
          exact ⟨⟨_, rfl⟩, 0 + j, hend, hJj⟩

end Go.Proofs.Ytgmpikaibeenmaa
