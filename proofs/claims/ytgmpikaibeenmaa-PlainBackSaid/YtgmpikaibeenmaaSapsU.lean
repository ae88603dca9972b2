
/- The reference's SAPs: who hears; opening one. -/
import Derived.Test.YtgmpikaibeenmaaSapsT
namespace Go.Proofs.Ytgmpikaibeenmaa
open Go.RowKit Go.Shelf Go.ChangeMaps
set_option linter.unusedVariables false
set_option linter.unusedSimpArgs false
set_option maxRecDepth 100000

theorem IsR.fr {w w' : World} {q : Nat} {s : Sl} {R : List RE} {L : List Nat} (h : IsR w q s R) (f : Fr L w w') (hL : ∀ b ∈ rfoot q s R, b ∉ L) : IsR w' q s R := by
  refine ⟨h.head.fr f (hL q (by simp [rfoot])), ⟨h.own.1, h.own.2.imp id ?_⟩, fun x hx => (h.grp x hx).frL f fun A n c e => hL _ ?_, h.off, h.sq, fun x hx b hb => ?_⟩
  · rintro ⟨g, cap, cur, e, hg, hb, r⟩
    refine ⟨g, cap, cur, e, hg, f.keeps hb (hL g ?_), r⟩
    cases s
    simp only [Sl.v, Value.slice.injEq] at e
    simp [rfoot, Sl.blk, e.1]
  · simp only [rfoot, List.mem_cons, List.mem_append, List.mem_flatMap]
    refine .inr (.inr ⟨x, hx, ?_⟩)
    cases hg : x.g
    rw [hg] at e
    simp only [Sl.v, Value.slice.injEq] at e
    simp [Sl.blk, e.1]
  · obtain ⟨cs, t, fz, he⟩ := h.exi x hx b hb
    exact ⟨cs, t, fz, f.keeps he (hL b (by simp only [rfoot, List.mem_cons, List.mem_append, List.mem_flatMap]; exact .inr (.inr ⟨x, hx, hb⟩)))⟩
theorem IsR.fr0 {w w' : World} {q : Nat} {s : Sl} {R : List RE} (h : IsR w q s R) (f : Fr [] w w') : IsR w' q s R := h.fr f (fun _ _ => by simp)
theorem IsR.lt {w : World} {q : Nat} {s : Sl} {R : List RE} (h : IsR w q s R) : ∀ b ∈ rfoot q s R, ∃ cs t f, w.heap[b]? = some (.cells cs t f) := by
  intro b hb
  simp only [rfoot, List.mem_cons, List.mem_append, List.mem_flatMap] at hb
  rcases hb with rfl | hb | ⟨x, hx, hb⟩
  · exact ⟨_, _, _, h.head⟩
  · rcases h.own.2 with ⟨e, _⟩ | ⟨g, cap, cur, e, hg, hc, _⟩
    · cases s; simp only [Sl.v, Value.slice.injEq] at e; simp [Sl.blk, e.1] at hb
    · cases s; simp only [Sl.v, Value.slice.injEq] at e; simp [Sl.blk, e.1] at hb; subst hb; exact ⟨_, _, _, hc⟩
  · exact h.exi x hx b hb
theorem IsR.lt' {w : World} {q : Nat} {s : Sl} {R : List RE} (h : IsR w q s R) : ∀ b ∈ rfoot q s R, b < w.heap.size := fun b hb => by
  obtain ⟨cs, t, f, e⟩ := h.lt b hb
  exact (Array.getElem?_eq_some_iff.1 e).1

theorem hearR_take (R : List RE) (to : Int) (k : Nat) (hk : k < R.length) : hearR (R.take (k + 1)) to = hearR (R.take k) to ++ if hearsB to R[k].k R[k].gs then [R[k].k] else [] := by
  unfold hearR
  rw [List.take_succ_eq_append_getElem hk, List.filter_append, List.map_append]
  by_cases h : hearsB to R[k].k R[k].gs = true <;> simp [h]
theorem hearR_len (R : List RE) (to : Int) (k : Nat) : (hearR (R.take k) to).length ≤ k := by
  unfold hearR
  rw [List.length_map]
  exact Nat.le_trans (List.length_filter_le _ _) (List.length_take_le _ _)

set_option maxHeartbeats 1000000 in
theorem r_Hears (w : World) (q : Nat) (s : Sl) (R : List RE) (to : Int) (h : IsR w q s R) (hs : R.length ≤ 1000) (hg : ∀ x ∈ R, x.gs.length ≤ 1000) :
    Calls Try.prog 23 #[.pointer (some ⟨q, 0, none⟩), .int .i64 to] w fun e w' =>
      ∃ s : Sl, e = .returned (.slice s.A s.n s.c) ∧ w'.ownsRow w.heap.size 3 1 s.v (hearR R to).length ((hearR R to).map (Value.int .i64)) ∧ Fr [] w w' := by
  obtain ⟨ji, j0, j1, j2, j3⟩ := info_parts (show (Try.prog.info? 3).map (fun i => (i.zero, i.size, i.bytes)) = some (some (.int .i64 0), 1, 8) by kernel_rfl)
  have ju : Try.prog.underlying 53 = some (.slice 3) := Try.underlying53
  go_enter Try.func23, Try.ntmps23
  go_wp2
  go_loopw [5, 6] (fun v i wr => ∃ k : Nat, i = .int .i64 k ∧ k ≤ R.length ∧ Fr [] w wr ∧ wr.ownsRow w.heap.size 3 1 v (hearR (R.take k) to).length ((hearR (R.take k) to).map (Value.int .i64))) (fun _ i _ => R.length - (intOf i).toNat)
  case atStart => exact ⟨0, rfl, by omega, Fr.refl _ _, World.ownsRow_nil _ _ _ _⟩
  case round =>
    obtain ⟨k, rfl, hk, hf, hown⟩ := hrel
    have h' := h.fr0 hf
    have c0 := h'.c0
    have hsz := hf.size
    have hlen := hearR_len R to k
    by_cases hlt : k < R.length
    · obtain ⟨b, hA, c1, c2, c3⟩ := h'.at_ k hlt
      rw [hA] at c0
      have hxm : R[k] ∈ R := List.getElem_mem hlt
      have hgx := h'.grp _ hxm
      have hgl := hg _ hxm
      obtain ⟨x, hx⟩ : ∃ x, R[k] = x := ⟨_, rfl⟩
      rw [hx] at c1 c2 c3 hgx hgl
      have HX := Lib.hid hx
      clear hx hxm c2 hA h'
      by_cases h1 : x.k = to
      · have e1 : (x.k == to) = true := by simpa using h1
        have HB := Lib.hid (show hearsB to x.k x.gs = true by unfold hearsB; rw [h1]; simp)
        clear h1
        skip
        have HW := Lib.hid (show hearR (R.take (k + 1)) to = hearR (R.take k) to ++ [x.k] by rw [hearR_take R to k hlt, HX.out, if_pos HB.out])
        go_wp2_with (at_builtin; refine wpList_append_own _ rfl _ _ 53 rfl (w.heap.size) 3 ji (.int .i64 0) 1 8 ju j0 j1 j2 j3 rfl (by decide) _ _ _ rfl (hown.alloc _) ⟨wr.heap.size, 0, none⟩ 1 1 [.int .i64 x.k] rfl rfl ?c1 ?c2 ?c4 ?c5 ?c6 ?_)
        case c1 => intro i u hu; match i, hu with
          | 0, hu => simp at hu; subst hu; (try rw [Go.WideShapes.add_plain]); exact (Blk.new wr #[.int .i64 x.k] 3).cell 0 rfl
          | i + 1, hu => simp at hu
        case c2 => intro u hu; simp at hu; subst hu; rfl
        case c4 => unfold maxLen; omega
        case c5 => omega
        case c6 => first | (simp; done) | (simp; omega)
        intro v' w4 hown4 hgrow _
        have f4 : Fr [] w w4 := (hf.alloc _).grown hgrow (fun k hk => .inr (hown.lt k hk).1)
        have hown5 : w4.ownsRow w.heap.size 3 1 v' (hearR (R.take (k + 1)) to).length ((hearR (R.take (k + 1)) to).map (Value.int .i64)) := by rw [HW.out]; simpa using hown4
        go_wp2
        go_roundw
        case rel => exact ⟨k + 1, by go_num, by omega, f4, hown5⟩
        case measure => simp [intOf]; omega
      · have e1 : (x.k == to) = false := by simpa using h1
        by_cases h2 : to = 255
        · have e2 : (to == 255) = true := by simpa using h2
          have HB := Lib.hid (show hearsB to x.k x.gs = true by unfold hearsB; rw [e2]; simp)
          clear h1 h2
          skip
          have HW := Lib.hid (show hearR (R.take (k + 1)) to = hearR (R.take k) to ++ [x.k] by rw [hearR_take R to k hlt, HX.out, if_pos HB.out])
          go_wp2_with (at_builtin; refine wpList_append_own _ rfl _ _ 53 rfl (w.heap.size) 3 ji (.int .i64 0) 1 8 ju j0 j1 j2 j3 rfl (by decide) _ _ _ rfl (hown.alloc _) ⟨wr.heap.size, 0, none⟩ 1 1 [.int .i64 x.k] rfl rfl ?c1 ?c2 ?c4 ?c5 ?c6 ?_)
          case c1 => intro i u hu; match i, hu with
            | 0, hu => simp at hu; subst hu; (try rw [Go.WideShapes.add_plain]); exact (Blk.new wr #[.int .i64 x.k] 3).cell 0 rfl
            | i + 1, hu => simp at hu
          case c2 => intro u hu; simp at hu; subst hu; rfl
          case c4 => unfold maxLen; omega
          case c5 => omega
          case c6 => first | (simp; done) | (simp; omega)
          intro v' w4 hown4 hgrow _
          have f4 : Fr [] w w4 := (hf.alloc _).grown hgrow (fun k hk => .inr (hown.lt k hk).1)
          have hown5 : w4.ownsRow w.heap.size 3 1 v' (hearR (R.take (k + 1)) to).length ((hearR (R.take (k + 1)) to).map (Value.int .i64)) := by rw [HW.out]; simpa using hown4
          go_wp2
          go_roundw
          case rel => exact ⟨k + 1, by go_num, by omega, f4, hown5⟩
          case measure => simp [intOf]; omega
        · have e2 : (to == 255) = false := by simpa using h2
          cases h3 : x.gs.contains to with
          | true =>
            have HC := Lib.hid h3
            have HB := Lib.hid (show hearsB to x.k x.gs = true by unfold hearsB; rw [h3]; simp)
            clear h1 h2 h3
            go_wp2_with fail
            refine (r_in _ x.g x.gs to hgx (by omega)).mono ?_
            rintro e w7 ⟨rfl, rfl⟩
            rw [HC.out]
            have HW := Lib.hid (show hearR (R.take (k + 1)) to = hearR (R.take k) to ++ [x.k] by rw [hearR_take R to k hlt, HX.out, if_pos HB.out])
            go_wp2_with (at_builtin; refine wpList_append_own _ rfl _ _ 53 rfl (w.heap.size) 3 ji (.int .i64 0) 1 8 ju j0 j1 j2 j3 rfl (by decide) _ _ _ rfl (hown.alloc _) ⟨wr.heap.size, 0, none⟩ 1 1 [.int .i64 x.k] rfl rfl ?c1 ?c2 ?c4 ?c5 ?c6 ?_)
            case c1 => intro i u hu; match i, hu with
              | 0, hu => simp at hu; subst hu; (try rw [Go.WideShapes.add_plain]); exact (Blk.new wr #[.int .i64 x.k] 3).cell 0 rfl
              | i + 1, hu => simp at hu
            case c2 => intro u hu; simp at hu; subst hu; rfl
            case c4 => unfold maxLen; omega
            case c5 => omega
            case c6 => first | (simp; done) | (simp; omega)
            intro v' w4 hown4 hgrow _
            have f4 : Fr [] w w4 := (hf.alloc _).grown hgrow (fun k hk => .inr (hown.lt k hk).1)
            have hown5 : w4.ownsRow w.heap.size 3 1 v' (hearR (R.take (k + 1)) to).length ((hearR (R.take (k + 1)) to).map (Value.int .i64)) := by rw [HW.out]; simpa using hown4
            go_wp2
            go_roundw
            case rel => exact ⟨k + 1, by go_num, by omega, f4, hown5⟩
            case measure => simp [intOf]; omega
          | false =>
            have HC := Lib.hid h3
            have HB := Lib.hid (show hearsB to x.k x.gs = false by unfold hearsB; rw [h3, e2]; simp; exact fun e => h1 e.symm)
            have HW := Lib.hid (show hearR (R.take (k + 1)) to = hearR (R.take k) to by rw [hearR_take R to k hlt, HX.out, if_neg (by rw [HB.out]; simp)]; simp)
            clear h1 h2 h3
            go_wp2_with fail
            refine (r_in _ x.g x.gs to hgx (by omega)).mono ?_
            rintro e w7 ⟨rfl, rfl⟩
            rw [HC.out]
            go_wp2
            go_roundw
            case rel => exact ⟨k + 1, by go_num, by omega, hf, by rw [HW.out]; exact hown⟩
            case measure => simp [intOf]; omega
    · have HW := Lib.hid (show hearR (R.take k) to = hearR R to by rw [List.take_of_length_le (by omega)])
      obtain ⟨s2, rfl⟩ := own_sl hown
      go_wp2
      go_ret
      exact ⟨s2, rfl, by rw [← HW.out]; exact hown, hf⟩

end Go.Proofs.Ytgmpikaibeenmaa
