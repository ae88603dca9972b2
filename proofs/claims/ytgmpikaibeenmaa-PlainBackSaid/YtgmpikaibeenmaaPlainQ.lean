
/- Hear of a datagram. -/
import Derived.Test.YtgmpikaibeenmaaPlainL
namespace Go.Proofs.Ytgmpikaibeenmaa
open Go.RowKit Go.Shelf Go.ChangeMaps
set_option linter.unusedVariables false
set_option linter.unusedSimpArgs false
set_option maxRecDepth 100000
attribute [local go_sem] Oper.semAt_some

set_option maxHeartbeats 8000000 in
theorem hear_u (w0 w : World) (p : Nat) (m : List AE) (d : PD) (sp : Sl) (ad : Ad) (N : Nat) (hM : AtM w0 w p m) (hb : Bts N w sp d.info) (hN : N ≤ w.heap.size) (hmay : mayB d = true) (hfm : d.fm = 2) (hk : d.kd = 0) (hml : m.length ≤ 16) (hi : d.info.length ≤ 100000) :
    Calls Try.prog 12 #[.pointer (some ⟨p, 0, none⟩), ad.val, d.val sp] w fun e w' => ∃ st : Sl, e = .returned (.tuple #[.slice st.A st.n st.c, .slice none 0 0]) ∧ IRow N w.heap.size st ((hsOf m d.to false).map fun n => (⟨1, n, d.fr, ad, d.info⟩ : ID)) w' ∧ AtM w0 w' p m ∧ Fr [] w w' := by
  have e2 : (d.fm != 2) = false := by simp [hfm]
  have e0 : (d.kd == 0) = true := by simp [hk]
  have e1 : (d.kd == 1) = false := by simp [hk]
  have e4 : (d.kd == 2) = false := by simp [hk]
  obtain ⟨F, hF⟩ := hM.atF
  have hMAY := Lib.hid hmay
  have hsn := hb.n
  have hp : p < w.heap.size := by obtain ⟨b, c, l, hh⟩ := hM; exact hh.is.blk.lt
  have hw0 := hM.fr.size
  have hb1 : Blk (((w.alloc (.cells #[.pointer (some ⟨p, 0, none⟩)] 23)).alloc (.cells ad.arr 37)).alloc (.cells (d.arr sp) 29)) w.heap.size #[.pointer (some ⟨p, 0, none⟩)] 23 := (((Blk.new w _ _).alloc _).alloc _)
  have hb2 : Blk (((w.alloc (.cells #[.pointer (some ⟨p, 0, none⟩)] 23)).alloc (.cells ad.arr 37)).alloc (.cells (d.arr sp) 29)) (w.heap.size + 1) ad.arr 37 := by
    have := (Blk.new (w.alloc (.cells #[.pointer (some ⟨p, 0, none⟩)] 23)) ad.arr 37).alloc (.cells (d.arr sp) 29)
    simpa only [World.size_alloc] using this
  have hb3 : Blk (((w.alloc (.cells #[.pointer (some ⟨p, 0, none⟩)] 23)).alloc (.cells ad.arr 37)).alloc (.cells (d.arr sp) 29)) (w.heap.size + 1 + 1) (d.arr sp) 29 := by
    have := Blk.new ((w.alloc (.cells #[.pointer (some ⟨p, 0, none⟩)] 23)).alloc (.cells ad.arr 37)) (d.arr sp) 29
    simpa only [World.size_alloc] using this
  have f0 : Fr [] w (((w.alloc (.cells #[.pointer (some ⟨p, 0, none⟩)] 23)).alloc (.cells ad.arr 37)).alloc (.cells (d.arr sp) 29)) := ((((Fr.refl _ _).alloc _).alloc _).alloc _)
  have hszE : (((w.alloc (.cells #[.pointer (some ⟨p, 0, none⟩)] 23)).alloc (.cells ad.arr 37)).alloc (.cells (d.arr sp) 29)).heap.size = w.heap.size + 3 := by simp
  have HH := Lib.hid (And.intro hb1 (And.intro hb2 (And.intro hb3 (And.intro f0 (And.intro hszE hsn)))))
  have HFLT := Lib.hid hF.lt
  clear hb1 hb2 hb3 f0 hszE hfm hk hmay hsn
  refine (callsIn_wide (n := 0)).1 ?_
  refine callsIn_of_wp_marks Try.func12 rfl trivial ?_ rfl
  simp only [Try.ntmps12, List.size_toArray, List.length_cons, List.length_nil, Nat.reduceAdd, Nat.reduceSub, Array.replicate_succ, Array.replicate_zero, List.push_toArray, List.append_toArray, List.nil_append, List.cons_append]
  refine wpIn_wide.2 ?_
  go_wp2_with fail
  refine (pdu_May d sp _ HH.out.2.2.2.2.2).mono ?_
  rintro e w1 ⟨rfl, f1⟩
  rw [hMAY.out]
  obtain ⟨hb1, hb2, hb3, f0, hsz0, hsn⟩ := HH.out
  have hs1 := f1.size
  rw [hsz0] at hs1
  have k1 := hb1.fr f1 (by simp)
  have k2 := hb2.fr f1 (by simp)
  have k3 := hb3.fr f1 (by simp)
  have F1 := f0.tr f1
  have hF1 := hF.on F1
  have hb' := hb.fr F1
  have kS := k1.cell 0 rfl
  have kT := k3.cell 0 rfl
  have kF := k3.cell 1 rfl
  have kR := k3.cell 2 rfl
  have kM := k3.cell 3 rfl
  have kK := k3.cell 4 rfl
  simp only [List.getElem_toArray, List.getElem_cons_zero, List.getElem_cons_succ] at kS kT kF kR kM kK
  clear HH hb1 hb2 hb3 f0 hsz0 hF hb f1
  generalize hS : w.heap.size = S at *
  have HSE := Lib.hid hS
  clear hS
  have q0 : ∀ o1 o2 o3 o4, ((((w1.alloc o1).alloc o2).alloc o3).alloc o4).cell? ⟨S + 1 + 1, 0, none⟩ = some (.int .i64 d.to) := fun o1 o2 o3 o4 => ((((k3.alloc o1).alloc o2).alloc o3).alloc o4).cell 0 rfl
  have q4 : ∀ o1 o2 o3 o4, ((((w1.alloc o1).alloc o2).alloc o3).alloc o4).cell? ⟨S + 1 + 1, 4, none⟩ = some (.int .i64 d.kd) := fun o1 o2 o3 o4 => ((((k3.alloc o1).alloc o2).alloc o3).alloc o4).cell 4 rfl
  have qS : ∀ o1 o2 o3 o4, ((((w1.alloc o1).alloc o2).alloc o3).alloc o4).cell? ⟨S, 0, none⟩ = some (.pointer (some ⟨p, 0, none⟩)) := fun o1 o2 o3 o4 => ((((k1.alloc o1).alloc o2).alloc o3).alloc o4).cell 0 rfl
  · skip
    go_wp2_with fail
    refine (plain_hearers _ (.pointer (some ⟨p, 0, none⟩)) d.to false (.inr ⟨p, rfl⟩)).mono ?_
    rintro e w5 ⟨X, hX, rfl, h5, h4, h3, hsz5, f5⟩
    have b8 := Blk.fr (Blk.n0 _ _ _ _ _ _) f5 (by simp)
    have b9 := Blk.fr (Blk.n1 _ _ _ _ _ _) f5 (by simp)
    have bF := Blk.fr (Blk.n2 _ _ _ _ _ _) f5 (by simp)
    have f15 : Fr [] w1 w5 := ((((Fr.refl _ _).alloc _).alloc _).alloc _).alloc _ |>.tr f5
    simp only [World.size_alloc] at hX
    have hFlt := HFLT.out
    have hI0 : HU w0 w p m F d.to false (X + 2) (X + 1) X d sp ad N w5.heap.size (S + 1 + 1) S (S + 1) w1.heap.size (w1.heap.size + 1) (w1.heap.size + 1 + 1) (.func (.func 29) #[] #[.pointer (some ⟨w1.heap.size, 0, none⟩), .pointer (some ⟨S + 1 + 1, 0, none⟩), .pointer (some ⟨S + 1, 0, none⟩)]) (fun n => (⟨1, n, d.fr, ad, d.info⟩ : ID)) 0 w5 :=
      ⟨hF1.on f15, h5, h4, h3, k3.fr f15 (by simp), k1.fr f15 (by simp), k2.fr f15 (by simp), hb'.fr f15, bF, ⟨Sl.nil, b8, RowG.nil⟩, b9, Nat.le_refl _, F1.tr f15⟩
    have HI0 := Lib.hid hI0
    have HB5 : X + 3 ≤ w5.heap.size := by omega
    have HX5 : w1.heap.size + 4 ≤ X := by omega
    clear b8 b9 bF h5 h4 h3 hI0 q0 q4 qS k1 k2 k3 kS kT kF kR kM kK hF1 hb' f5 f15
    generalize hBe : w5.heap.size = B at *
    have HBE := Lib.hid hBe
    clear hsz5 hBe hX
    generalize w1.heap.size = V at *
    go_wp2
    have hFS : ∀ x ∈ F, x < S := HFLT.out
    have hsE := HSE.out
    have HFS := Lib.hid hFS
    have hlenS := hsOf_len (m := m) d.to false
    clear hFS hFlt
    refine wp_rangeFunc_at (σ := Nat) (q := 13) (gf := 46) (lb := #[.pointer (some ⟨X + 2, 0, none⟩), .pointer (some ⟨X + 1, 0, none⟩), .pointer (some ⟨X, 0, none⟩)]) rfl (enters_of Try.func46 (by kernel_rfl) rfl)
      (HU w0 w p m F d.to false (X + 2) (X + 1) X d sp ad N B (S + 1 + 1) S (S + 1) V (V + 1) (V + 1 + 1) (.func (.func 29) #[] #[.pointer (some ⟨V, 0, none⟩), .pointer (some ⟨S + 1 + 1, 0, none⟩), .pointer (some ⟨S + 1, 0, none⟩)]) (fun n => (⟨1, n, d.fr, ad, d.info⟩ : ID)))
      ?hI ?hA KeepI ?hSp (fun _ _ _ h k => h.trans k) 0 HI0.out (fun k => .int .i64 ((hsOf m d.to false)[k]?.getD 0)) (fun k => k < (hsOf m d.to false).length) (fun k => k + 1) ?iter ?assign ?body ?done
    case hI =>
      intro k W l o o' h hl ho hc hw
      have hBl : B ≤ l := by rw [← HBE.out]; exact hl
      refine h.frL (Fr.putObj W l o') (fun x hx => ?_)
      simp at hx
      subst hx
      refine ⟨by omega, by omega, by omega, fun hm => by have := HFS.out _ hm; omega, fun cs t fz e => by rw [e] at ho; cases ho; cases hc⟩
    case hA => intro k W W' h f; exact h.frL f (by simp)
    case hSp => intro W l o o' hl ho hc hw; exact KeepI.put W l o o' ho hc
    case iter =>
      intro l J W hJ hd hY hj0
      exact hear_iter w0 p m d.to false _ _ _ hml l J (fun s W h => ⟨(hJ s W h).at_.atM, (hJ s W h).c5, (hJ s W h).c4, (hJ s W h).c3⟩) hd hY W hj0
    case assign =>
      intro l k W K hK
      simp only [List.setIfInBounds_toArray, List.set_cons_zero, List.set_cons_succ] at hK ⊢
      gi_wp2
      exact hK
    case body =>
      intro l k W h hmore
      have cF := h.cF.cell 0 rfl
      simp only [List.getElem_toArray, List.getElem_cons_zero] at cF
      have hx : (hsOf m d.to false)[k]?.getD 0 = (hsOf m d.to false)[k] := by rw [List.getElem?_eq_getElem hmore]; rfl
      have HX1 := Lib.hid hx
      obtain ⟨st, c8, hrow⟩ := h.c8
      have hrl := RowG.blk hrow
      have hans := plain_tell 1 ((hsOf m d.to false)[k]?.getD 0) d sp ad N B V (S + 1 + 1) (S + 1) st _ W h.cP h.bts h.cA c8 hrow (by omega) (by omega) (by omega) (by omega) (by omega) h.size (by simp; omega) hi
      rw [hx] at hans
      have hfin : ∀ (W' : World) (st' : Sl), Blk W' V #[.slice st'.A st'.n st'.c] 32 → IRow N B st' (((hsOf m d.to false).take k).map (fun n => (⟨1, n, d.fr, ad, d.info⟩ : ID)) ++ [(⟨1, (hsOf m d.to false)[k], d.fr, ad, d.info⟩ : ID)]) W' → Fr (V :: st.blk) W W' → KeepsOthers W W' ∧ (HU w0 w p m F d.to false (X + 2) (X + 1) X d sp ad N B (S + 1 + 1) S (S + 1) V (V + 1) (V + 1 + 1) (.func (.func 29) #[] #[.pointer (some ⟨V, 0, none⟩), .pointer (some ⟨S + 1 + 1, 0, none⟩), .pointer (some ⟨S + 1, 0, none⟩)]) (fun n => (⟨1, n, d.fr, ad, d.info⟩ : ID))) (k + 1) W' ∧ KeepI W W' := by
        intro W' st' hT' hR' f'
        have hcs : ∀ x ∈ V :: st.blk, x = V ∨ (B ≤ x ∧ ∃ cs, W.heap[x]? = some (.cells cs 56 (0, 0))) := fun x hx => by
          rcases List.mem_cons.1 hx with rfl | hx
          · exact .inl rfl
          · exact .inr (hrl x hx)
        have hcell : ∀ x ∈ V :: st.blk, ∃ cs t, (t = 32 ∨ t = 56) ∧ W.heap[x]? = some (.cells cs t (0, 0)) := fun x hx => by
          rcases hcs x hx with rfl | ⟨_, cs, e⟩
          · exact ⟨_, _, .inl rfl, c8⟩
          · exact ⟨_, _, .inr rfl, e⟩
        have hno : ∀ t, t ≠ 32 → t ≠ 56 → ∀ x ∈ V :: st.blk, ∀ cs fz, W.heap[x]? ≠ some (.cells cs t fz) := fun t h1 h2 x hx cs fz e => by
          obtain ⟨cs', t', ht, e'⟩ := hcell x hx
          rw [e'] at e
          cases e
          rcases ht with rfl | rfl
          · exact h1 rfl
          · exact h2 rfl
        have nb : ∀ {b : Nat}, b < B → b ≠ V → b ∉ V :: st.blk := fun hb hne hm => by
          rcases hcs _ hm with h9 | ⟨h9, _⟩
          · exact hne h9
          · omega
        have hge : ∀ x ∈ V :: st.blk, S ≤ x := fun x hx => by
          rcases hcs x hx with rfl | ⟨h9, _⟩ <;> omega
        refine ⟨KeepsOthers.fr f' fun x hx => ?_, ⟨h.at_.frL f' (fun x hx hm => ?_) (fun x hx => ?_), h.c5.fr f' (nb (by omega) (by omega)), h.c4.fr f' (nb (by omega) (by omega)), h.c3.fr f' (nb (by omega) (by omega)), h.cP.fr f' (nb (by omega) (by omega)), h.cS.fr f' (nb (by omega) (by omega)), h.cA.fr f' (nb (by omega) (by omega)), h.bts.frL f' (fun x hx => ⟨?_, hno _ (by decide) (by decide) x hx⟩), h.cF.fr f' (nb (by omega) (by omega)), ⟨st', hT', ?_⟩, h.c9.fr f' (nb (by omega) (by omega)), Nat.le_trans h.size f'.size, h.fr.trans f' (fun x hx => .inr ?_)⟩, KeepI.fr f' (hno _ (by decide) (by decide))⟩
        · obtain ⟨cs, t, _, e⟩ := hcell x hx; exact ⟨_, _, _, e⟩
        · have h1 := hge x hx; have := HFS.out x hm; omega
        · have := hge x hx; omega
        · have := hge x hx; omega
        · rw [take_map _ _ _ hmore]; exact hR'
        · have := hge x hx; omega
      have HFIN := Lib.hid hfin
      clear hx hfin hrl
      simp only [List.setIfInBounds_toArray, List.set_cons_zero, List.set_cons_succ]
      gi_wp2
      refine ⟨trivial, rfl, CallsIn.inRound l (callsIn_wide.2 (hans.mono ?_))⟩
      rintro e W' ⟨rfl, st', hT', hR', f'⟩
      have hfin2 := HFIN.out W' st' hT' hR' f'
      have HFIN2 := Lib.hid hfin2
      clear hfin2 hT' hR' f'
      gi_wp2
      exact HFIN2.out
    case done =>
      intro D k W hD hk h hdef
      obtain ⟨st, c8, hrow⟩ := h.c8
      have q8 := c8.cell 0 rfl
      have q9 := h.c9.cell 0 rfl
      simp only [List.getElem_toArray, List.getElem_cons_zero] at q8 q9
      have hall : ((hsOf m d.to false).take k).map (fun n => (⟨1, n, d.fr, ad, d.info⟩ : ID)) = (hsOf m d.to false).map (fun n => (⟨1, n, d.fr, ad, d.info⟩ : ID)) := by rw [List.take_of_length_le (by omega)]
      rw [hall] at hrow
      have hSB : w.heap.size ≤ B := by omega
      have hDB : B ≤ D := by rw [← HBE.out]; exact hD
      have hh := fun nq o' => h.done hrow hSB D o' nq ⟨by omega, by omega, by omega, fun hm => by have := HFS.out _ hm; omega⟩ hdef
      clear hrow hall c8 h hSB hDB
      have HH := Lib.hid hh
      clear hh
      go_wp2
      go_quiet (fail)
      go_wp2
      refine ⟨by simp, .inl ⟨_, _, rfl, run_takeDeferred hdef, ?_⟩⟩
      exact ⟨_, by simp [results, Try.results12, go_sem], st, rfl, HH.out _ _⟩

end Go.Proofs.Ytgmpikaibeenmaa

