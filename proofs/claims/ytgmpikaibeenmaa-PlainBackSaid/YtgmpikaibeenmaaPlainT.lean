/- Hear of an answer. -/
import Derived.Test.YtgmpikaibeenmaaPlainR
namespace Go.Proofs.Ytgmpikaibeenmaa
open Go.RowKit Go.Shelf Go.ChangeMaps
set_option linter.unusedVariables false
set_option linter.unusedSimpArgs false
set_option maxRecDepth 100000
attribute [local go_sem] Oper.semAt_some

set_option maxHeartbeats 8000000 in
theorem hear_c (w0 w : World) (p : Nat) (m : List AE) (d : PD) (sp : Sl) (ad : Ad) (N : Nat) (hM : AtM w0 w p m) (hb : Bts N w sp d.info) (hN : N ≤ w.heap.size) (hmay : mayB d = true) (hfm : d.fm = 2) (hk : d.kd = 2) (hrs : d.rs = true) (hcl : 0 < clsA m d.to) (hml : m.length ≤ 16) (hi : d.info.length ≤ 100000) :
    Calls Try.prog 12 #[.pointer (some ⟨p, 0, none⟩), ad.val, d.val sp] w fun e w' => ∃ st : Sl, e = .returned (.tuple #[.slice st.A st.n st.c, .slice none 0 0]) ∧ IRow N w.heap.size st [⟨3, d.to, d.fr, ad, d.info⟩] w' ∧ AtM w0 w' p m ∧ Fr [] w w' := by
  have e2 : (d.fm != 2) = false := by simp [hfm]
  have e0 : (d.kd == 0) = false := by simp [hk]
  have e3 : decide (0 < clsA m d.to) = true := by simpa using hcl
  have hkk := Lib.hid hk
  obtain ⟨F, hF⟩ := hM.atF
  have hMAY := Lib.hid hmay
  have hsn := hb.n
  have hp : p < w.heap.size := by obtain ⟨b, c, l, hh⟩ := hM; exact hh.is.blk.lt
  have hw0 := hM.fr.size
  obtain ⟨K, hK⟩ : ∃ K, d.kd = K := ⟨_, rfl⟩
  have ek : ((K == 1) = true) ∨ ((K == 1) = false ∧ (K == 2) = true) := by rw [← hK]; exact .inr ⟨by simp [hk], by simp [hk]⟩
  have hb1 : Blk (((w.alloc (.cells #[.pointer (some ⟨p, 0, none⟩)] 23)).alloc (.cells ad.arr 37)).alloc (.cells (d.arr sp) 29)) w.heap.size #[.pointer (some ⟨p, 0, none⟩)] 23 := (((Blk.new w _ _).alloc _).alloc _)
  have hb2 : Blk (((w.alloc (.cells #[.pointer (some ⟨p, 0, none⟩)] 23)).alloc (.cells ad.arr 37)).alloc (.cells (d.arr sp) 29)) (w.heap.size + 1) ad.arr 37 := by
    have := (Blk.new (w.alloc (.cells #[.pointer (some ⟨p, 0, none⟩)] 23)) ad.arr 37).alloc (.cells (d.arr sp) 29)
    simpa only [World.size_alloc] using this
  have hb3 : Blk (((w.alloc (.cells #[.pointer (some ⟨p, 0, none⟩)] 23)).alloc (.cells ad.arr 37)).alloc (.cells (d.arr sp) 29)) (w.heap.size + 1 + 1) (d.arr sp) 29 := by
    have := Blk.new ((w.alloc (.cells #[.pointer (some ⟨p, 0, none⟩)] 23)).alloc (.cells ad.arr 37)) (d.arr sp) 29
    simpa only [World.size_alloc] using this
  have f0 : Fr [] w (((w.alloc (.cells #[.pointer (some ⟨p, 0, none⟩)] 23)).alloc (.cells ad.arr 37)).alloc (.cells (d.arr sp) 29)) := ((((Fr.refl _ _).alloc _).alloc _).alloc _)
  have hszE : (((w.alloc (.cells #[.pointer (some ⟨p, 0, none⟩)] 23)).alloc (.cells ad.arr 37)).alloc (.cells (d.arr sp) 29)).heap.size = w.heap.size + 3 := by simp
  have HH := Lib.hid (And.intro hb1 (And.intro hb2 (And.intro hb3 (And.intro f0 (And.intro hszE hsn)))))
  have HREL := Lib.hid hrs
  have HFLT := Lib.hid hF.lt
  have HKD := Lib.hid hK
  clear hb1 hb2 hb3 f0 hszE hfm hk hrs hmay hK hsn hcl
  go_enter Try.func12, Try.ntmps12
  go_wp2_with fail
  refine (pdu_May d sp _ HH.out.2.2.2.2.2).mono ?_
  rintro e w1 ⟨rfl, f1⟩
  rw [hMAY.out]
  obtain ⟨hb1, hb2, hb3, f0, hsz0, hsn⟩ := HH.out
  have hs1 := f1.size
  rw [hsz0] at hs1
  have k1 := hb1.fr f1 (by simp)
  have k2 := hb2.fr f1 (by simp)
  have k3 := hb3.fr f1 (by simp)
  have F1 := f0.tr f1
  have hF1 := hF.on F1
  have hb' := hb.fr F1
  have kS := k1.cell 0 rfl
  have kT := k3.cell 0 rfl
  have kF := k3.cell 1 rfl
  have kR := k3.cell 2 rfl
  have kM := k3.cell 3 rfl
  have kK := k3.cell 4 rfl
  simp only [List.getElem_toArray, List.getElem_cons_zero, List.getElem_cons_succ] at kS kT kF kR kM kK
  rw [HREL.out] at kR
  clear HH hb1 hb2 hb3 f0 hsz0 hF hb f1
  generalize hS : w.heap.size = S at *
  have HSE := Lib.hid hS
  clear hS
  have q0 : ∀ o1 o2 o3 o4, ((((w1.alloc o1).alloc o2).alloc o3).alloc o4).cell? ⟨S + 1 + 1, 0, none⟩ = some (.int .i64 d.to) := fun o1 o2 o3 o4 => ((((k3.alloc o1).alloc o2).alloc o3).alloc o4).cell 0 rfl
  have q1 : ∀ o1 o2 o3 o4, ((((w1.alloc o1).alloc o2).alloc o3).alloc o4).cell? ⟨S + 1 + 1, 1, none⟩ = some (.int .i64 d.fr) := fun o1 o2 o3 o4 => ((((k3.alloc o1).alloc o2).alloc o3).alloc o4).cell 1 rfl
  have q4 : ∀ o1 o2 o3 o4, ((((w1.alloc o1).alloc o2).alloc o3).alloc o4).cell? ⟨S + 1 + 1, 4, none⟩ = some (.int .i64 d.kd) := fun o1 o2 o3 o4 => ((((k3.alloc o1).alloc o2).alloc o3).alloc o4).cell 4 rfl
  have q2 : ∀ o1 o2 o3 o4, ((((w1.alloc o1).alloc o2).alloc o3).alloc o4).cell? ⟨S + 1 + 1, 2, none⟩ = some (.bool true) := fun o1 o2 o3 o4 => by have := ((((k3.alloc o1).alloc o2).alloc o3).alloc o4).cell 2 rfl; simp only [List.getElem_toArray, List.getElem_cons_zero, List.getElem_cons_succ, HREL.out] at this; exact this
  have qS : ∀ o1 o2 o3 o4, ((((w1.alloc o1).alloc o2).alloc o3).alloc o4).cell? ⟨S, 0, none⟩ = some (.pointer (some ⟨p, 0, none⟩)) := fun o1 o2 o3 o4 => ((((k1.alloc o1).alloc o2).alloc o3).alloc o4).cell 0 rfl
  have e1 : (d.kd == 1) = false := by rw [hkk.out]; rfl
  have e4 : (d.kd == 2) = true := by rw [hkk.out]; rfl
  clear ek hkk
  · skip
    go_wp2_with fail
    have hAw := (((((hF1.atM).on ((((((Fr.refl [] w1).alloc (.cells #[.slice none 0 0] 32)).alloc (.cells #[.slice none 0 0] 33)).alloc (.cells #[.func (.func 29) #[] #[.pointer (some ⟨w1.heap.size, 0, none⟩), .pointer (some ⟨S + 1 + 1, 0, none⟩), .pointer (some ⟨S + 1, 0, none⟩)]] 70)).alloc (.cells #[.func (.func 31) #[] #[.pointer (some ⟨S + 1 + 1, 0, none⟩), .pointer (some ⟨S, 0, none⟩), .pointer (some ⟨w1.heap.size + 1, 0, none⟩)]] 75)))))))
    refine (Class_any w0 _ p m d.to hAw).mono ?_
    rintro e w' ⟨rfl, rfl⟩
    go_wp2_with fail
    have bT := Blk.n0 w1 #[.slice none 0 0] 32 (.cells #[.slice none 0 0] 33) (.cells #[.func (.func 29) #[] #[.pointer (some ⟨w1.heap.size, 0, none⟩), .pointer (some ⟨S + 1 + 1, 0, none⟩), .pointer (some ⟨S + 1, 0, none⟩)]] 70) (.cells #[.func (.func 31) #[] #[.pointer (some ⟨S + 1 + 1, 0, none⟩), .pointer (some ⟨S, 0, none⟩), .pointer (some ⟨w1.heap.size + 1, 0, none⟩)]] 75)
    have bU := Blk.n1 w1 #[.slice none 0 0] 33 (.cells #[.slice none 0 0] 32) (.cells #[.func (.func 29) #[] #[.pointer (some ⟨w1.heap.size, 0, none⟩), .pointer (some ⟨S + 1 + 1, 0, none⟩), .pointer (some ⟨S + 1, 0, none⟩)]] 70) (.cells #[.func (.func 31) #[] #[.pointer (some ⟨S + 1 + 1, 0, none⟩), .pointer (some ⟨S, 0, none⟩), .pointer (some ⟨w1.heap.size + 1, 0, none⟩)]] 75)
    have hFlt := HFLT.out
    have hsE := HSE.out
    refine (plain_tell _ d.to d sp ad N (w1.heap.size + 4) w1.heap.size (S + 1 + 1) (S + 1) Sl.nil [] _ ((((k3.alloc _).alloc _).alloc _).alloc _) (((((hb'.fr ((Fr.refl _ _).alloc _)).fr ((Fr.refl _ _).alloc _)).fr ((Fr.refl _ _).alloc _)).fr ((Fr.refl _ _).alloc _))) ((((k2.alloc _).alloc _).alloc _).alloc _) bT RowG.nil (by omega) (by omega) (by omega) (by omega) (by omega) (by simp) (by simp) hi).mono ?_
    rintro e w6 ⟨rfl, st, hT6, hR6, f6⟩
    have q8 := hT6.cell 0 rfl
    have q9 := (bU.fr f6 (by simp [Sl.blk, Sl.nil])).cell 0 rfl
    simp only [List.getElem_toArray, List.getElem_cons_zero] at q8 q9
    have g6 := (((((Fr.refl [w1.heap.size] w1).alloc (.cells #[.slice none 0 0] 32)).alloc (.cells #[.slice none 0 0] 33)).alloc (.cells #[.func (.func 29) #[] #[.pointer (some ⟨w1.heap.size, 0, none⟩), .pointer (some ⟨S + 1 + 1, 0, none⟩), .pointer (some ⟨S + 1, 0, none⟩)]] 70)).alloc (.cells #[.func (.func 31) #[] #[.pointer (some ⟨S + 1 + 1, 0, none⟩), .pointer (some ⟨S, 0, none⟩), .pointer (some ⟨w1.heap.size + 1, 0, none⟩)]] 75)).trans f6 (fun x hx => by simp [Sl.blk, Sl.nil] at hx; subst hx; exact .inl (by simp))
    have hA6 := (hF1.frL g6 (fun x hx hm => by simp at hx; subst hx; have := hFlt _ hm; omega) (fun x hx => by simp at hx; subst hx; omega)).atM
    have F6 : Fr [] w w6 := F1.trans g6 (fun x hx => .inr (by simp at hx; subst hx; omega))
    obtain ⟨xs, h1, h2⟩ := hR6
    have hlow := (⟨xs, own_low (B' := S) h1 (by omega), h2⟩ : RowG _ _ (repI N) S w6 st _)
    have hfin := fun nq => And.intro (IRow.fr ((Fr.refl [] w6).drewN nq) hlow) (And.intro (hA6.on ((Fr.refl [] w6).drewN nq)) (F6.drewN nq))
    have HFIN := Lib.hid hfin
    clear hlow
    clear h1 h2 hfin hA6 F6 g6 bT bU hT6 f6 hAw
    go_wp2
    go_quiet (fail)
    go_wp2
    go_ret2
    exact ⟨st, rfl, by rw [HSE.out]; exact HFIN.out nq⟩

end Go.Proofs.Ytgmpikaibeenmaa

