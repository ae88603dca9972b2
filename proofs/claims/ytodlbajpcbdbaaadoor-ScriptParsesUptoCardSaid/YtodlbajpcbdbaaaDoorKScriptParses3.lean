/- Lemmas: ScrM, ScrN, MapI, MapP, MapR, ScrO, ScrP, ScrQ, ScrR, ScrT, ScrU, ScrV, ScrX, ScrEnv, PrA, QrA, QrB, QrC, PrB, ParU, PrC, PrD, QrD. No condition. -/
import Derived.Test.YtodlbajpcbdbaaaDoorKScriptLines2
import Derived.Deep.DeepCutAuto
import Derived.Lib.ItoaLen
import Derived.Maps.RangeWalk
import Derived.DeepKeys
import Derived.Test.YtodlbajpcbdbaaaDoorCards
import Derived.Test.YtodlbajpcbdbaaaDoorTie
import Derived.WalkKit
import Derived.ProofKit
import Derived.OpenShut
import Derived.ShutString
import Derived.Deep.DeepHandedRow
import Derived.Lib.LaidTab
import Derived.Stop.LaidErr
import Derived.Shelf.Vars
import Derived.Laws.BytesArg
namespace Go.Proofs.YtodlbajpcbdbaaaDoor
open Go.RowKit Go.Shelf
set_option linter.unusedVariables false
set_option linter.unusedSimpArgs false
set_option maxRecDepth 100000

theorem strs_at {L : List (List UInt8)} {i : Nat} {x : List UInt8} (h : L[i]? = some x) : (strs L)[i]? = some (sv x) := by simp [strs, h]
theorem ERow.low {N B B' : Nat} {s : Sl} {l : List EV} {w : World} (h : ERow N B s l w) (hb : B' ≤ B) : ERow N B' s l w := by
  obtain ⟨xs, h1, h2, h3⟩ := h
  exact ⟨xs, own_low h1 hb, h2, h3⟩
structure PaAt (w3 wr : World) (R C LB N0 : Nat) (lines : List (List UInt8)) (cfg : List Int) (sl : Sl) (evs : List EV) : Prop where
  f : Fr [C] w3 wr
  c : Blk wr C (intsV cfg) 30
  l : cfg.length = 17
  r : Blk wr R (intsV zeros17) 30
  lb : Blk wr LB (strs lines) 9
  row : ERow 0 N0 sl evs wr
set_option maxRecDepth 100000 in
set_option maxHeartbeats 16000000 in
theorem scr_Parse (w : World) (s : ByteArray) (hE : Env w) (hs : s.size ≤ 2000000) :
    Calls Tryd.prog 8 #[.string s] w (ParsePost w s.bytes) := by
  obtain ⟨i0, hi0, hz0, hz1, hz2⟩ := info_parts (show (Tryd.prog.info? 63).map (fun i => (i.zero, i.size, i.bytes)) = some (some (.agg ((EV.zero 0).arr Sl.nil)), 8, 80) by kernel_rfl)
  have hun : Tryd.prog.underlying 31 = some (.slice 63) := Tryd.underlying31
  have hb0 : Blk (w.alloc (.cells (intsV zeros17) 30)) w.heap.size (intsV zeros17) 30 := Blk.new _ _ _
  have fa : Fr [] w (w.alloc (.cells (intsV zeros17) 30)) := (Fr.refl [] w).alloc _
  have hsp := scr_split (w.alloc (.cells (intsV zeros17) 30)) s 10 (hE.fr0 fa) (by omega)
  obtain ⟨n, hn⟩ : ∃ n, lineN s.bytes = n := ⟨_, rfl⟩
  have hlen : (splitc 10 s.bytes).length = n + 1 := by have := (splitc_len 10 s.bytes).2; rw [← hn]; unfold lineN; omega
  have hnle : n ≤ 2000000 := by have := (splitc_len 10 s.bytes).1; have h2 : s.bytes.length = s.size := rfl; omega
  have hsz : (w.alloc (.cells (intsV zeros17) 30)).heap.size = w.heap.size + 1 := by simp
  rw [hlen, hsz] at hsp
  obtain ⟨last, hla, hlv⟩ := sv_ex (lastL s.bytes)
  have hlast : (splitc 10 s.bytes)[n]? = some (lastL s.bytes) := by unfold lastL; rw [hn, List.getD_eq_getElem?_getD, List.getElem?_eq_getElem (by omega)]; rfl
  have HE := Lib.hid (And.intro hE (And.intro hb0 (And.intro fa (And.intro hn (And.intro hlen (And.intro hla (And.intro hlv hlast)))))))
  clear hE hb0 fa hn hlen hla hlv hlast hsz
  go_enter Tryd.func8, Tryd.ntmps8
  go_wp2_with fail
  refine hsp.mono ?_
  rintro e w2 ⟨rfl, hlb, f2⟩
  have hcl := hlb.cell n (strs_at HE.out.2.2.2.2.2.2.2)
  rw [HE.out.2.2.2.2.2.2.1] at hcl
  obtain ⟨R, hR⟩ : ∃ R, w.heap.size = R := ⟨_, rfl⟩
  obtain ⟨LB, hLB⟩ : ∃ LB, w.heap.size + 1 = LB := ⟨_, rfl⟩
  have HL : Hid (Blk w2 LB (strs (splitc 10 s.bytes)) 9 ∧ Blk w2 R (intsV zeros17) 30 ∧ Fr [] w w2) := Lib.hid ⟨by rw [← hLB]; exact hlb, by rw [← hR]; exact HE.out.2.1.fr f2 (by simp), HE.out.2.2.1.tr f2⟩
  rw [hLB] at hcl ⊢
  rw [hR] at hLB ⊢
  have HR : Hid (w.heap.size = R ∧ R + 1 = LB) := Lib.hid ⟨hR, hLB⟩
  have wn : IntKind.i64.wrap (((n + 1 : Nat) : Int) - 1) = (n : Int) := by rw [IntWalk.i64_in _ (by omega)]; omega
  clear hsp hlb f2 hLB hR
  have wn2 : ((n + 1 : Nat) : Int) = (n : Int) + 1 := by omega
  have hq : (lastL s.bytes).isEmpty = last.toList.isEmpty := by rw [ByteArray.toList_eq, ← HE.out.2.2.2.2.2.1]; rfl
  go_upto_region 4 with (fail)
  clear wn wn2 hcl
  go_cut [45] (fun t wx => t = .bool (longB s.bytes n (lastL s.bytes)) ∧ wx = w2)
  case first =>
    by_cases a1 : 65536 < s.size
    · have d1 : decide ((65536 : Int) < (s.size : Int)) = true := by simp; omega
      have HX : Hid (longB s.bytes n (lastL s.bytes) = true) := Lib.hid (by unfold longB; rw [decide_eq_true (show 65536 < s.bytes.length from a1)]; rfl)
      clear a1 hq
      go_wp2
      go_meet
      exact ⟨by rw [HX.out], rfl⟩
    · have d1 : decide ((65536 : Int) < (s.size : Int)) = false := by simp; omega
      by_cases a2 : 2048 < n
      · have d2 : decide ((2048 : Int) < (n : Int)) = true := by simp; omega
        have HX : Hid (longB s.bytes n (lastL s.bytes) = true) := Lib.hid (by unfold longB; rw [decide_eq_true a2]; simp)
        clear a1 a2 hq
        go_wp2
        go_meet
        exact ⟨by rw [HX.out], rfl⟩
      · have d2 : decide ((2048 : Int) < (n : Int)) = false := by simp; omega
        by_cases a3 : n = 2048
        · have d3 : ((n : Int) == 2048) = true := by rw [beq_iff_eq]; omega
          cases a4 : last.toList.isEmpty with
          | true =>
            have HX : Hid (longB s.bytes n (lastL s.bytes) = false) := Lib.hid (by unfold longB; rw [hq, a4, decide_eq_false (show ¬ 65536 < s.bytes.length from a1), decide_eq_false a2]; simp)
            clear a1 a2 a3 hq
            go_wp2
            go_meet
            exact ⟨by rw [HX.out], rfl⟩
          | false =>
            have HX : Hid (longB s.bytes n (lastL s.bytes) = true) := Lib.hid (by unfold longB; rw [hq, a4, decide_eq_true a3]; simp)
            clear a1 a2 a3 hq
            go_wp2
            go_meet
            exact ⟨by rw [HX.out], rfl⟩
        · have d3 : ((n : Int) == 2048) = false := by rw [beq_eq_false_iff_ne]; omega
          have HX : Hid (longB s.bytes n (lastL s.bytes) = false) := Lib.hid (by unfold longB; rw [decide_eq_false (show ¬ 65536 < s.bytes.length from a1), decide_eq_false a2, decide_eq_false a3]; simp)
          clear a1 a2 a3 hq
          go_wp2
          go_meet
          exact ⟨by rw [HX.out], rfl⟩
  case rest =>
    obtain ⟨rfl, rfl⟩ := hcut
    clear hq
    cases hlong : longB s.bytes n (lastL s.bytes) with
    | true =>
      have HX : Hid (longB s.bytes (lineN s.bytes) (lastL s.bytes) = true) := Lib.hid (by rw [HE.out.2.2.2.1]; exact hlong)
      clear hlong
      go_wp2_with (first | (refine wpList_store_row rfl 30 (.tmp 2) (.tmp 46) rfl R (intsV zeros17) rfl rfl 30 (intsV zeros17) HL.out.2.1 (by kernel_rfl) rfl (intsV_one _) ?_))
      refine bodyPost_ret (v := .tuple #[.agg (intsV zeros17), .slice none 0 0, .int .i64 (0), .int .i64 (3)]) (results_cell3 Tryd.results8 _ _ R _ _ _ _ _ _ _ rfl rfl rfl rfl (HL.out.2.1).setRow Tryd.underlying30 rfl (by kernel_rfl)) rfl ⟨(HL.out.2.2).setRow _ (.inr (by have := HR.out; omega)), ?_⟩
      rw [show parseM s.bytes = .error (0, 3) by unfold parseM; rw [if_pos HX.out]]
    | false =>
      have HLG := Lib.hid hlong
      clear hlong
      have hEc : Env (wc.alloc (.cells (intsV zeros17) 30)) := HE.out.1.fr0 (HL.out.2.2.alloc _)
      have hshp := scr_shapes _ hEc
      obtain ⟨C, hC⟩ : ∃ C, wc.heap.size = C := ⟨_, rfl⟩
      have hbC : Blk (wc.alloc (.cells (intsV zeros17) 30)) C (intsV zeros17) 30 := by rw [← hC]; exact Blk.new _ _ _
      have hRC : R < C := by rw [← hC]; exact HL.out.2.1.lt
      have HC := Lib.hid (And.intro hbC hRC)
      clear hEc hbC hRC
      go_wp2_with fail
      refine hshp.mono ?_
      rintro e w3 ⟨ss, rfl, hsr, f3⟩
      try rw [hC]
      clear hC
      obtain ⟨N, hN⟩ : ∃ N, (wc.alloc (.cells (intsV zeros17) 30)).heap.size = N := ⟨_, rfl⟩
      rw [hN] at hsr
      have HN := Lib.hid hN
      have fa := (HL.out.2.2.alloc (.cells (intsV zeros17) 30)).tr f3
      have fc := ((Fr.refl [] wc).alloc (.cells (intsV zeros17) 30)).tr f3
      obtain ⟨lines, hlines⟩ : ∃ lines, (splitc 10 s.bytes).take n = lines := ⟨_, rfl⟩
      have hll : lines.length = n := by rw [← hlines, List.length_take]; have := HE.out.2.2.2.2.1; omega
      have hn2 : n ≤ 2048 := by have := HLG.out; unfold longB at this; simp at this; omega
      have hs2 : s.size ≤ 65536 := by have := HLG.out; unfold longB at this; simp at this; have h2 : s.bytes.length = s.size := rfl; omega
      have HW : Hid (w3.ownsRow N 81 3 ss.v 25 (shapesM.flatMap shC) ∧ Fr [] w w3 ∧ R < C ∧ Env w3 ∧ w.heap.size = R) := Lib.hid ⟨hsr, fa, HC.out.2, HE.out.1.fr0 fa, HR.out.1⟩
      have HP0 : Hid (PaAt w3 w3 R C LB w3.heap.size (splitc 10 s.bytes) zeros17 Sl.nil []) := Lib.hid ⟨Fr.refl _ _, HC.out.1.fr f3 (by simp), rfl, HL.out.2.1.fr fc (by simp), HL.out.1.fr fc (by simp), RowG.nil⟩
      obtain ⟨G0, hG0⟩ : ∃ G, goL 0 lines zeros17 [] = G := ⟨_, rfl⟩
      have HG : Hid (goL 0 (lines.drop 0) zeros17 [] = G0) := Lib.hid hG0
      have HPM : Hid (parseM s.bytes = endM n (lastL s.bytes) G0) := Lib.hid (by unfold parseM; rw [HE.out.2.2.2.1, HLG.out, if_neg (by simp), hlines, hG0])
      have HLN := Lib.hid hlines
      have HLL := Lib.hid hll
      clear hshp hsr f3 hN fa fc hlines hG0 hll
      go_wp2
      go_loopw [9, 50] (fun lv i wr => ∃ (k : Nat) (cfg : List Int) (sl : Sl) (evs : List EV), lv = .slice sl.A sl.n sl.c ∧ i = .int .i64 (k : Int) ∧ k ≤ n ∧ goL k (lines.drop k) cfg evs = G0 ∧ evs.length ≤ k ∧ PaAt w3 wr R C LB w3.heap.size (splitc 10 s.bytes) cfg sl evs) (fun _ i _ => n - (intOf i).toNat)
      case atStart => exact ⟨0, zeros17, Sl.nil, [], rfl, rfl, by omega, HG.out, by simp, HP0.out⟩
      case round =>
        obtain ⟨k, cfg, sl, evs, rfl, rfl, hk, hg, hel, hp⟩ := hrel
        have HP := Lib.hid hp
        have HG2 := Lib.hid hg
        by_cases hlt : k < n
        · have d1 : (k : Int) < (n : Int) := by omega
          have hkl : k < lines.length := by rw [HLL.out]; exact hlt
          have hx : (splitc 10 s.bytes)[k]? = some (lines[k]) := by rw [← List.getElem?_eq_getElem hkl, ← HLN.out, List.getElem?_take, if_pos hlt]
          obtain ⟨x, hxx⟩ : ∃ x, lines[k] = x := ⟨_, rfl⟩
          rw [hxx] at hx
          obtain ⟨sx, hsx, hvx⟩ := sv_ex x
          have hcx := hp.lb.cell k (strs_at hx)
          rw [hvx] at hcx
          have hxl : x.length ≤ 65536 := by have h1 := splitc_le 10 s.bytes x (List.mem_of_getElem? hx); have h2 : s.bytes.length = s.size := rfl; omega
          have hgs : goL k (x :: lines.drop (k + 1)) cfg evs = G0 := by rw [← hg, List.drop_eq_getElem_cons hkl, hxx]
          have HGS := Lib.hid hgs
          have hEr : Env wr := HW.out.2.2.2.1.fr hp.f (by have := HW.out.2.2.1; have := HE.out.1.size; have := HW.out.2.2.2.2; simp; omega)
          have hsz : sx.size ≤ 65536 := by have h2 : sx.bytes.length = sx.size := rfl; rw [hsx] at h2; omega
          have hspl := scr_split wr sx 32 hEr (by omega)
          rw [hsx] at hspl
          obtain ⟨ws, hws⟩ : ∃ ws, splitc 32 x = ws := ⟨_, rfl⟩
          rw [hws] at hspl
          have hwl : 0 < ws.length ∧ ws.length ≤ 1000000 ∧ ∀ y ∈ ws, y.length ≤ 1000000 := by
            rw [← hws]
            have := splitc_len 32 x
            exact ⟨by omega, by omega, fun y hy => by have := splitc_le 32 x y hy; omega⟩
          have HX := Lib.hid (And.intro hws (And.intro hwl hEr))
          have wk : IntKind.i64.wrap ((k : Int) + 1) = (k : Int) + 1 := IntWalk.i64_in _ (by omega)
          clear hp hg hx hsx hvx hgs hEr hws hxx
          go_wp2_with fail
          refine hspl.mono ?_
          rintro e w4 ⟨rfl, hW4, f4⟩
          obtain ⟨WB, hWB⟩ : ∃ WB, wr.heap.size = WB := ⟨_, rfl⟩
          rw [hWB] at hW4 ⊢
          have H4 : Hid (Blk w4 WB (strs ws) 9 ∧ PaAt w3 w4 R C LB w3.heap.size (splitc 10 s.bytes) cfg sl evs ∧ Env w4 ∧ Fr [] wr w4) := Lib.hid ⟨hW4, ⟨HP.out.f.tr0 f4, HP.out.c.fr f4 (by simp), HP.out.l, HP.out.r.fr f4 (by simp), HP.out.lb.fr f4 (by simp), ERow.fr f4 HP.out.row⟩, HX.out.2.2.fr0 f4, f4⟩
          clear hspl hW4 f4 hWB hcx
          by_cases hk0 : k = 0
          · have q0 : ((k : Int) == 0) = true := by rw [beq_iff_eq]; omega
            have hcf := scr_config w4 WB ws H4.out.2.2.1 H4.out.1 HX.out.2.1.1 HX.out.2.1.2.1 HX.out.2.1.2.2
            have HK0 := Lib.hid hk0
            clear hk0
            go_wp2_with fail
            refine hcf.mono ?_
            rintro e w5 ⟨f5, hpost⟩
            have H5 : Hid (PaAt w3 w5 R C LB w3.heap.size (splitc 10 s.bytes) cfg sl evs) := Lib.hid ⟨H4.out.2.1.f.tr0 f5, H4.out.2.1.c.fr f5 (by simp), H4.out.2.1.l, H4.out.2.1.r.fr f5 (by simp), H4.out.2.1.lb.fr f5 (by simp), ERow.fr f5 H4.out.2.1.row⟩
            have key : Hid (∀ c' : List Int, c'.length = 17 → PaAt w3 (w5.setRow C (intsV c')) R C LB w3.heap.size (splitc 10 s.bytes) c' sl evs) := Lib.hid (fun c' hc' => by
              have fs : Fr [C] w5 (w5.setRow C (intsV c')) := (Fr.refl [C] w5).setRow _ (.inl (by simp))
              have h5 := H5.out
              exact ⟨h5.f.tr fs, h5.c.setRow, hc', h5.r.fr fs (by have := HW.out.2.2.1; simp; omega), h5.lb.fr fs (fun hm => by simp at hm; subst hm; exact absurd (Blk.ty h5.c h5.lb) (by decide)), h5.row.frL fs (fun z hz => by simp at hz; subst hz; exact ⟨Nat.zero_le _, h5.c.noB (by decide)⟩) (fun b hb hm => by simp at hm; subst hm; obtain ⟨_, cs, e⟩ := RowG.blk h5.row _ hb; exact absurd (Blk.ty h5.c e) (by decide))⟩)
            cases hcm : configM ws with
            | some c' =>
              rw [hcm] at hpost
              obtain ⟨hc17, rfl⟩ := hpost
              have HS : Hid (goL (k + 1) (lines.drop (k + 1)) c' evs = G0) := Lib.hid (by
                have := HGS.out
                rw [HK0.out] at this ⊢
                simp only [goL, HX.out.1, hcm] at this
                exact this)
              have HC17 := Lib.hid hc17
              clear hcf hcm hc17 f5
              go_wp2_with (refine wpList_store_row rfl 30 (.tmp 8) (.tmp 62) rfl C (intsV c') rfl rfl 30 (intsV cfg) H5.out.c (by rw [show (intsV c').size = 17 by simp [intsV, HC17.out]]; kernel_rfl) (by simp [intsV, HC17.out, H5.out.l]) (intsV_one _) ?_)
              go_roundw
              case rel => exact ⟨k + 1, c', sl, evs, rfl, by go_num, by omega, HS.out, by omega, key.out c' HC17.out⟩
              case measure => simp [intOf]; omega
            | none =>
              rw [hcm] at hpost
              obtain ⟨c', hc17, rfl⟩ := hpost
              have HS : Hid (G0 = .error (1, 12)) := Lib.hid (by
                have := HGS.out
                rw [HK0.out] at this
                simp only [goL, HX.out.1, hcm] at this
                exact this.symm)
              have HC17 := Lib.hid hc17
              have HKY := Lib.hid (key.out c' hc17)
              clear hcf hcm hc17 f5
              have e0 := HK0.out
              subst e0
              go_wp2_with (first | (refine wpList_store_row rfl 30 (.tmp 8) (.tmp 62) rfl C (intsV c') rfl rfl 30 (intsV cfg) H5.out.c (by rw [show (intsV c').size = 17 by simp [intsV, HC17.out]]; kernel_rfl) (by simp [intsV, HC17.out, H5.out.l]) (intsV_one _) ?_) | (refine wpList_store_row rfl 30 (.tmp 2) (.tmp 76) rfl R (intsV zeros17) rfl rfl 30 (intsV zeros17) HKY.out.r (by kernel_rfl) rfl (intsV_one _) ?_))
              refine bodyPost_ret (v := .tuple #[.agg (intsV zeros17), .slice none 0 0, .int .i64 (1), .int .i64 12]) (results_cell3 Tryd.results8 _ _ R _ _ _ _ _ _ _ rfl rfl rfl rfl (HKY.out.r).setRow Tryd.underlying30 rfl (by kernel_rfl)) rfl ⟨(HW.out.2.1.tr' (HKY.out.f) (by have := HW.out.2.2.1; have := HW.out.2.2.2.2; simp; omega)).setRow _ (.inr (by have := HR.out; omega)), ?_⟩
              rw [show parseM s.bytes = .error (1, 12) by rw [HPM.out, HS.out]; rfl]
          · have q0 : ((k : Int) == 0) = false := by rw [beq_eq_false_iff_ne]; omega
            have fz := (Fr.refl [] w4).alloc (.cells ((EV.zero 0).arr Sl.nil) 63)
            obtain ⟨k', hk'⟩ : ∃ k', k = k' + 1 := ⟨k - 1, by omega⟩
            have hsr4 : w4.ownsRow N 81 3 ss.v 25 (shapesM.flatMap shC) := own_ofTy (u := 81) HW.out.1 H4.out.2.1.f (TyOut.cons HP0.out.c (by decide) (TyOut.nil _ _))
            have hev := scr_event (w4.alloc (.cells ((EV.zero 0).arr Sl.nil) 63)) WB N ws ss (H4.out.2.2.1.fr0 fz) (H4.out.1.fr fz (by simp)) (own_fr hsr4 fz) HX.out.2.1.1 HX.out.2.1.2.1 HX.out.2.1.2.2
            have HF4 := Lib.hid (And.intro fz (Blk.new w4 ((EV.zero 0).arr Sl.nil) 63))
            have HKK := Lib.hid (And.intro hk0 hk')
            clear fz hsr4 hk0 hk'
            go_wp2_with fail
            refine hev.mono ?_
            rintro e w6 ⟨f6, hpost⟩
            obtain ⟨EB, hEB⟩ : ∃ EB, w4.heap.size = EB := ⟨_, rfl⟩
            obtain ⟨ev, s', rfl, hyes⟩ : ∃ ev s', e = .returned (.tuple #[.agg (EV.arr ev s'), .bool (eventM ws).isSome]) ∧ ∀ ev0, eventM ws = some ev0 → ev = ev0 ∧ Bts 0 w6 s' (bytesI ev.b) := by
              cases hem : eventM ws with
              | some ev0 =>
                rw [hem] at hpost
                obtain ⟨s', he, hb⟩ := hpost
                exact ⟨ev0, s', he, fun ev1 h1 => by cases h1; exact ⟨rfl, hb⟩⟩
              | none =>
                rw [hem] at hpost
                obtain ⟨ev', s', he⟩ := hpost
                exact ⟨ev', s', he, fun ev1 h1 => by cases h1⟩
            have H6 : Hid (Blk w6 EB ((EV.zero 0).arr Sl.nil) 63 ∧ PaAt w3 w6 R C LB w3.heap.size (splitc 10 s.bytes) cfg sl evs ∧ w3.heap.size ≤ EB ∧ ∀ b ∈ sl.blk, b ∉ [EB]) := Lib.hid (by
              have f46 := HF4.out.1.tr f6
              have h4 := H4.out.2.1
              exact ⟨by rw [← hEB]; exact HF4.out.2.fr f6 (by simp), ⟨h4.f.tr0 f46, h4.c.fr f46 (by simp), h4.l, h4.r.fr f46 (by simp), h4.lb.fr f46 (by simp), ERow.fr f46 h4.row⟩, by rw [← hEB]; exact h4.f.size, fun b hb hm => by
                simp at hm
                obtain ⟨_, cs, e⟩ := RowG.blk h4.row b hb
                have := (Array.getElem?_eq_some_iff.1 e).1
                omega⟩)
            have HY := Lib.hid hyes
            rw [hEB]
            clear hev f6 hpost hyes hEB
            obtain ⟨xs, hown6, hall6, hlen6⟩ := H6.out.2.1.row
            have fs : Fr [EB] w6 (w6.setRow EB (ev.arr s')) := (Fr.refl [EB] w6).setRow _ (.inl (by simp))
            have HS7 : Hid (Blk (w6.setRow EB (ev.arr s')) EB (ev.arr s') 63) := Lib.hid H6.out.1.setRow
            have hown7 : (w6.setRow EB (ev.arr s')).ownsRow w3.heap.size 63 8 sl.v evs.length xs.flatten := ⟨hown6.1, hown6.2.imp id fun ⟨g, cap, cur, e, hg, hb, r⟩ => ⟨g, cap, cur, e, hg, fs.keeps hb (H6.out.2.2.2 g (blk_mem e)), r⟩⟩
            have HB8 : Hid (Blk ((w6.setRow EB (ev.arr s')).alloc (.cells (ev.arr s') 63)) (w6.setRow EB (ev.arr s')).heap.size (ev.arr s') 63 ∧ ((w6.setRow EB (ev.arr s')).alloc (.cells (ev.arr s') 63)).ownsRow w3.heap.size 63 8 sl.v evs.length xs.flatten) := Lib.hid ⟨Blk.new _ _ _, own_fr hown7 ((Fr.refl [] _).alloc _)⟩
            have HB9 : Hid (Blk ((w6.setRow EB (ev.arr s')).alloc (.cells (ev.arr s') 63)) w6.heap.size (ev.arr s') 63) := Lib.hid (by have := HB8.out.1; rwa [show (w6.setRow EB (ev.arr s')).heap.size = w6.heap.size by simp [World.setRow]] at this)
            have HX6 := Lib.hid (And.intro hown6 (And.intro hall6 (And.intro hlen6 fs)))
            have hsz7 : w3.heap.size ≤ ((w6.setRow EB (ev.arr s')).alloc (.cells (ev.arr s') 63)).heap.size := by
              have h1 := H6.out.1.lt
              have h2 := H6.out.2.2.1
              rw [World.size_alloc]
              have : (w6.setRow EB (ev.arr s')).heap.size = w6.heap.size := by simp [World.setRow]
              omega
            have hevl : evs.length ≤ 2048 := by omega
            clear hown7 hown6 hall6 hlen6 fs
            go_wp2_with (first | (refine wpList_store_row rfl 63 (.tmp 15) (.tmp 68) rfl EB (ev.arr s') rfl rfl 63 ((EV.zero 0).arr Sl.nil) H6.out.1 (by kernel_rfl) rfl (ev_one _ _) ?_) | (refine wpList_load_row rfl 63 (.tmp 15) rfl EB rfl 63 (ev.arr s') (0, 0) _ HS7.out Tryd.underlying63 rfl (by kernel_rfl) ?_) | (at_builtin; refine wpList_append_own _ rfl _ _ 31 rfl w3.heap.size 63 i0 ((Value.agg ((EV.zero 0).arr Sl.nil))) 8 80 hun hi0 hz0 hz1 hz2 rfl (by decide) _ _ _ rfl HB8.out.2 _ 1 1 [.int .i64 ev.d, .int .i64 ev.fr, .int .i64 ev.to, .int .i64 ev.n, .int .i64 ev.sap, .int .i64 ev.far, .bool ev.po, .slice s'.A s'.n s'.c] rfl rfl ?c1 ?c2 ?c4 ?c5 ?c6 ?_))
            case c1 => intro i u hu; match i, hu with
              | 0, hu => simp at hu; subst hu; (try rw [Go.WideShapes.add_plain]); first | exact HB8.out.1.cell 0 rfl | exact HB9.out.cell 0 rfl
              | 1, hu => simp at hu; subst hu; (try rw [Go.WideShapes.add_plain]); first | exact HB8.out.1.cell 1 rfl | exact HB9.out.cell 1 rfl
              | 2, hu => simp at hu; subst hu; (try rw [Go.WideShapes.add_plain]); first | exact HB8.out.1.cell 2 rfl | exact HB9.out.cell 2 rfl
              | 3, hu => simp at hu; subst hu; (try rw [Go.WideShapes.add_plain]); first | exact HB8.out.1.cell 3 rfl | exact HB9.out.cell 3 rfl
              | 4, hu => simp at hu; subst hu; (try rw [Go.WideShapes.add_plain]); first | exact HB8.out.1.cell 4 rfl | exact HB9.out.cell 4 rfl
              | 5, hu => simp at hu; subst hu; (try rw [Go.WideShapes.add_plain]); first | exact HB8.out.1.cell 5 rfl | exact HB9.out.cell 5 rfl
              | 6, hu => simp at hu; subst hu; (try rw [Go.WideShapes.add_plain]); first | exact HB8.out.1.cell 6 rfl | exact HB9.out.cell 6 rfl
              | 7, hu => simp at hu; subst hu; (try rw [Go.WideShapes.add_plain]); first | exact HB8.out.1.cell 7 rfl | exact HB9.out.cell 7 rfl
              | i + 8, hu => simp at hu
            case c2 => intro u hu; simp at hu; rcases hu with rfl | rfl | rfl | rfl | rfl | rfl | rfl | rfl <;> rfl
            case c4 => unfold maxLen; omega
            case c5 => omega
            case c6 => exact hsz7
            intro v' w9 hown9 hgrow _
            obtain ⟨sn, rfl⟩ := own_sl' hown9
            have f9 : Fr sl.blk ((w6.setRow EB (ev.arr s')).alloc (.cells (ev.arr s') 63)) w9 := Fr.grownL hgrow
            have HKEEP : Hid (∀ b cs t, t ≠ 63 → Blk w6 b cs t → Blk w9 b cs t) := Lib.hid (fun b cs t ht hb => by
              have h7 : Blk (w6.setRow EB (ev.arr s')) b cs t := hb.fr HX6.out.2.2.2 (fun hm => by simp at hm; subst hm; exact ht (Blk.ty hb H6.out.1))
              have h8 := h7.alloc (.cells (ev.arr s') 63)
              exact h8.fr f9 (h8.off HB8.out.2 ht))
            have HFR : Hid (Fr [C] w3 w9) := Lib.hid (((H6.out.2.1.f.trans HX6.out.2.2.2 (fun x hx => .inr (by simp at hx; have := H6.out.2.2.1; omega))).alloc _).trans f9 (fun x hx => .inr (own_blk HX6.out.1 x hx).1))
            have HROW : Hid (∀ ev0, eventM ws = some ev0 → ERow 0 w3.heap.size sn (evs ++ [ev0]) w9) := Lib.hid (fun ev0 h0 => by
              obtain ⟨e0, hb0⟩ := HY.out ev0 h0
              subst e0
              have hbts : ∀ (sb : Sl) (l : List Int), Bts 0 w6 sb l → Bts 0 w9 sb l := fun sb l hb =>
                ((hb.frL HX6.out.2.2.2 (fun x hx => ⟨Nat.zero_le _, by simp at hx; subst hx; exact H6.out.1.noB (by decide)⟩)).fr ((Fr.refl [] _).alloc _)).frL f9 (fun x hx => ⟨Nat.zero_le _, fun cs fz e => by obtain ⟨_, cs', e'⟩ := own_blk HB8.out.2 x hx; rw [e'] at e; cases e⟩)
              refine RowG.push (w := w6) (xs := xs) (cs := (ev.arr s').toList) HX6.out.2.1 HX6.out.2.2.1 ?_ (fun cs d ⟨sd, e1, hb1⟩ => ⟨sd, e1, hbts sd _ hb1⟩) rfl ⟨s', rfl, hbts s' _ hb0⟩
              simpa using hown9)
            have HPA : Hid (∀ ev0, eventM ws = some ev0 → PaAt w3 w9 R C LB w3.heap.size (splitc 10 s.bytes) cfg sn (evs ++ [ev0])) := Lib.hid (fun ev0 h0 =>
              ⟨HFR.out, HKEEP.out _ _ _ (by decide) H6.out.2.1.c, H6.out.2.1.l, HKEEP.out _ _ _ (by decide) H6.out.2.1.r, HKEEP.out _ _ _ (by decide) H6.out.2.1.lb, HROW.out ev0 h0⟩)
            have HR9 : Hid (Blk w9 R (intsV zeros17) 30) := Lib.hid (HKEEP.out _ _ _ (by decide) H6.out.2.1.r)
            clear hown9 hgrow f9 hsz7
            cases hem : eventM ws with
            | some ev0 =>
              have HS : Hid (goL (k + 1) (lines.drop (k + 1)) cfg (evs ++ [ev0]) = G0) := Lib.hid (by
                have := HGS.out
                rw [HKK.out.2] at this ⊢
                simp only [goL, HX.out.1, hem] at this
                exact this)
              have HP9 := Lib.hid (HPA.out ev0 hem)
              clear hem
              go_wp2
              go_roundw
              case rel => exact ⟨k + 1, cfg, sn, evs ++ [ev0], rfl, by go_num, by omega, HS.out, by simp; omega, HP9.out⟩
              case measure => simp [intOf]; omega
            | none =>
              have HS : Hid (G0 = .error ((k : Int) + 1, 12)) := Lib.hid (by
                have := HGS.out
                rw [HKK.out.2] at this
                simp only [goL, HX.out.1, hem] at this
                rw [← this, HKK.out.2]
                simp only [Except.error.injEq, Prod.mk.injEq, and_true]
                omega)
              clear hem
              go_wp2_with (refine wpList_store_row rfl 30 (.tmp 2) (.tmp 76) rfl R (intsV zeros17) rfl rfl 30 (intsV zeros17) HR9.out (by kernel_rfl) rfl (intsV_one _) ?_)
              refine bodyPost_ret (v := .tuple #[.agg (intsV zeros17), .slice none 0 0, .int .i64 ((k : Int) + 1), .int .i64 12]) (results_cell3 Tryd.results8 _ _ R _ _ _ _ _ _ _ rfl rfl rfl rfl (HR9.out).setRow Tryd.underlying30 rfl (by kernel_rfl)) rfl ⟨(HW.out.2.1.tr' (HFR.out) (by have := HW.out.2.2.1; have := HW.out.2.2.2.2; simp; omega)).setRow _ (.inr (by have := HR.out; omega)), ?_⟩
              rw [show parseM s.bytes = .error ((k : Int) + 1, 12) by rw [HPM.out, HS.out]; rfl]
        · have hke : k = n := by omega
          have hg0 : G0 = .ok (cfg, evs) := by rw [← hg, List.drop_eq_nil_of_le (by rw [HLL.out]; omega)]; cases k <;> rfl
          have HG9 := Lib.hid hg0
          have hlq : (lastL s.bytes).isEmpty = last.toList.isEmpty := by rw [ByteArray.toList_eq, ← HE.out.2.2.2.2.2.1]; rfl
          have HLQ := Lib.hid hlq
          clear hp hg hg0 hlq
          by_cases hbad : n = 0 ∨ last.toList.isEmpty = false
          · have HS : Hid (parseM s.bytes = .error ((n : Int) + 1, 12)) := Lib.hid (by
              rw [HPM.out, HG9.out]
              unfold endM
              simp only
              rw [if_pos]
              rcases hbad with h | h
              · exact .inl h
              · right
                rw [← HLQ.out] at h
                simpa using h)
            have wn : IntKind.i64.wrap ((n : Int) + 1) = (n : Int) + 1 := IntWalk.i64_in _ (by omega)
            by_cases hn0 : n = 0
            · have q0 : ((n : Int) == 0) = true := by rw [beq_iff_eq]; omega
              clear hbad hn0
              go_wp2_with (refine wpList_store_row rfl 30 (.tmp 2) (.tmp 87) rfl R (intsV zeros17) rfl rfl 30 (intsV zeros17) HP.out.r (by kernel_rfl) rfl (intsV_one _) ?_)
              refine bodyPost_ret (v := .tuple #[.agg (intsV zeros17), .slice none 0 0, .int .i64 ((n : Int) + 1), .int .i64 12]) (results_cell3 Tryd.results8 _ _ R _ _ _ _ _ _ _ rfl rfl rfl rfl HP.out.r.setRow Tryd.underlying30 rfl (by kernel_rfl)) rfl ⟨(HW.out.2.1.tr' HP.out.f (by have := HW.out.2.2.1; have := HW.out.2.2.2.2; simp; omega)).setRow _ (.inr (by have := HR.out; omega)), ?_⟩
              rw [HS.out]
            · have q0 : ((n : Int) == 0) = false := by rw [beq_eq_false_iff_ne]; omega
              have q1 : last.toList.isEmpty = false := hbad.resolve_left hn0
              clear hbad hn0
              go_wp2_with (refine wpList_store_row rfl 30 (.tmp 2) (.tmp 87) rfl R (intsV zeros17) rfl rfl 30 (intsV zeros17) HP.out.r (by kernel_rfl) rfl (intsV_one _) ?_)
              refine bodyPost_ret (v := .tuple #[.agg (intsV zeros17), .slice none 0 0, .int .i64 ((n : Int) + 1), .int .i64 12]) (results_cell3 Tryd.results8 _ _ R _ _ _ _ _ _ _ rfl rfl rfl rfl HP.out.r.setRow Tryd.underlying30 rfl (by kernel_rfl)) rfl ⟨(HW.out.2.1.tr' HP.out.f (by have := HW.out.2.2.1; have := HW.out.2.2.2.2; simp; omega)).setRow _ (.inr (by have := HR.out; omega)), ?_⟩
              rw [HS.out]
          · have HS : Hid (parseM s.bytes = .ok (cfg, evs)) := Lib.hid (by
              rw [HPM.out, HG9.out]
              unfold endM
              simp only
              rw [if_neg]
              intro h
              rcases h with h | h
              · exact hbad (.inl h)
              · refine hbad (.inr ?_)
                rw [← HLQ.out]
                simpa using h)
            have q0 : ((n : Int) == 0) = false := by rw [beq_eq_false_iff_ne]; omega
            have q1 : last.toList.isEmpty = true := by simpa using fun h => hbad (.inr h)
            clear hbad
            have h17 : (intsV cfg).size = 17 := by simp [intsV, HP.out.l]
            have H17 := Lib.hid h17
            clear h17
            go_wp2_with (first | (refine wpList_load_row rfl 30 (.tmp 8) rfl C rfl 30 (intsV cfg) (0, 0) _ HP.out.c Tryd.underlying30 rfl (by rw [H17.out]; kernel_rfl) ?_) | (refine wpList_store_row rfl 30 (.tmp 2) (.tmp 91) rfl R (intsV cfg) rfl rfl 30 (intsV zeros17) HP.out.r (by rw [H17.out]; kernel_rfl) (by rw [H17.out]; rfl) (intsV_one _) ?_))
            refine bodyPost_ret (v := .tuple #[.agg (intsV cfg), .slice sl.A sl.n sl.c, .int .i64 0, .int .i64 0]) (results_cell3 Tryd.results8 _ _ R _ _ _ _ _ _ _ rfl rfl rfl rfl HP.out.r.setRow Tryd.underlying30 rfl (by rw [H17.out]; kernel_rfl)) rfl ⟨(HW.out.2.1.tr' HP.out.f (by have := HW.out.2.2.1; have := HW.out.2.2.2.2; simp; omega)).setRow _ (.inr (by have := HR.out; omega)), ?_⟩
            rw [HS.out]
            refine ⟨HP.out.l, sl, rfl, (ERow.frL HP.out.row ((Fr.refl [R] wr).setRow _ (.inl (by simp))) (fun z hz => by simp at hz; subst hz; exact ⟨Nat.zero_le _, HP.out.r.noB (by decide)⟩) (fun b hb hm => by simp at hm; subst hm; obtain ⟨_, cs, e⟩ := RowG.blk HP.out.row _ hb; exact absurd (Blk.ty HP.out.r e) (by decide))).low ?_⟩
            exact HW.out.2.1.size
end Go.Proofs.YtodlbajpcbdbaaaDoor
namespace Go.Proofs.YtodlbajpcbdbaaaDoor
open Go.RowKit Go.Shelf
set_option linter.unusedVariables false
set_option linter.unusedSimpArgs false
set_option maxRecDepth 100000

theorem ownsRow_blk {w : World} {B b : Nat} {cs : Array Value} {t : TypeId} (h : Blk w b cs t) (hb : B ≤ b) (hm : cs.size ≤ maxLen) : w.ownsRow B t 1 (.slice (some ⟨b, 0, none⟩) cs.size cs.size) cs.size cs.toList :=
  ⟨by simp, .inr ⟨b, cs.size, cs, rfl, hb, h, Nat.le_refl _, hm, by simp, by rw [Nat.mul_one, ← Array.length_toList, List.take_length]⟩⟩
/-- An event's line. -/
def lineE (s : SH) (e : EV) : List UInt8 := Lib.join (wordsE s e) [32] ++ [10]
theorem wordF_len (e : EV) (c : UInt8) (hl : e.b.length ≤ 1000000) (ho : e.Ok) : (wordF e c).length ≤ 2000002 := by
  unfold wordF
  split
  · split <;> simp
  · split
    · unfold hexM
      split
      · simp
      · rw [hexL_len]; omega
    · have := Lib.itoa_length_le (e.get c) (ho.get c).1 (ho.get c).2
      omega
theorem lens_le (n : Nat) : ∀ (l : List (List UInt8)), (∀ x ∈ l, x.length ≤ n) → Lib.lens l ≤ l.length * n
  | [], _ => by simp [Lib.lens]
  | x :: r, h => by
    have h1 := h x (by simp)
    have h2 := lens_le n r (fun y hy => h y (by simp [hy]))
    have h3 : Lib.lens (x :: r) = x.length + Lib.lens r := by simp [Lib.lens]
    rw [h3, List.length_cons, Nat.succ_mul]
    omega
theorem wordsE_len {s : SH} (hs : s ∈ shapesM) (e : EV) (hl : e.b.length ≤ 1000000) (ho : e.Ok) : (Lib.join (wordsE s e) [32]).length ≤ 1000000000 ∧ (wordsE s e).length ≤ 7 := by
  have h6 := (shape_ok hs).2.2.2.2.1
  have h10 := (shape_ok hs).2.2.2.2.2
  have hlen : (wordsE s e).length ≤ 7 := by simp [wordsE]; omega
  refine ⟨?_, hlen⟩
  have h := lens_le 2000002 (wordsE s e) (fun x hx => by
    rcases List.mem_cons.1 hx with rfl | hx
    · omega
    · obtain ⟨c, _, rfl⟩ := List.mem_map.1 hx
      exact wordF_len e c hl ho)
  unfold wordsE at h ⊢
  rw [Lib.join_length]
  simp only [List.length_cons, List.length_nil, List.length_map] at h ⊢
  have : (s.2.2.length + 1) * 2000002 ≤ 7 * 2000002 := Nat.mul_le_mul_right _ (by omega)
  omega
def BtsE (N0 : Nat) (w : World) (sl : Sl) (l : List Int) : Prop := ∃ N, Bts N w sl l ∧ N ≤ N0
theorem BtsE.fr0 {N0 : Nat} {w w' : World} {sl : Sl} {l : List Int} (h : BtsE N0 w sl l) (f : Fr [] w w') : BtsE N0 w' sl l := by
  obtain ⟨N, h1, h2⟩ := h
  exact ⟨N, h1.fr f, h2⟩
theorem BtsE.alloc {N0 : Nat} {w : World} {sl : Sl} {l : List Int} (h : BtsE N0 w sl l) (o : Obj) : BtsE N0 (w.alloc o) sl l := h.fr0 ((Fr.refl [] w).alloc o)
theorem BtsE.fr' {N0 : Nat} {w w' : World} {sl : Sl} {l : List Int} {L : List Nat} (h : BtsE N0 w sl l) (f : Fr L w w') (hL : ∀ x ∈ L, N0 ≤ x ∧ ∃ cs, w.heap[x]? = some (.cells cs 9 (0, 0))) : BtsE N0 w' sl l := by
  obtain ⟨N, h1, h2⟩ := h
  refine ⟨N, h1.frL f (fun x hx => ?_), h2⟩
  obtain ⟨h3, cs, h4⟩ := hL x hx
  exact ⟨by omega, fun cs' fz e => by rw [h4] at e; cases e⟩
structure SaAt (w : World) (ev : EV) (sl : Sl) (sh : SH) (sw sx : ByteArray) (E S M q : Nat) (sr : Sl) (wr : World) : Prop where
  f : Fr [] w wr
  e : Blk wr E (ev.arr sl) 63
  s : Blk wr S #[.int .i64 sh.1, .string sw, .string sx] 81
  b : BtsE w.heap.size wr sl (bytesI ev.b)
  m : U8.FieldMap wr M E
  row : wr.ownsRow w.heap.size 9 1 sr.v (q + 1) ((sh.2.1 :: (sh.2.2.take q).map (wordF ev)).map sv)
theorem U8.FieldMap.frM {w w' : World} {M E : Nat} {L : List Nat} {t : TypeId} (h : U8.FieldMap w M E) (f : Fr L w w') (hL : ∀ x ∈ L, ∃ cs, w.heap[x]? = some (.cells cs t (0, 0))) : U8.FieldMap w' M E := by
  refine h.fr f (fun hm => ?_)
  obtain ⟨cs, e⟩ := hL M hm
  obtain ⟨l, c, e2, _⟩ := h
  rw [e] at e2
  cases e2
theorem U8.FieldMap.alloc {w : World} {M E : Nat} (h : U8.FieldMap w M E) (o : Obj) : U8.FieldMap (w.alloc o) M E := h.fr ((Fr.refl [] w).alloc o) (by simp)
set_option maxRecDepth 100000 in
set_option maxHeartbeats 8000000 in
theorem scr_said (w : World) (N : Nat) (ev : EV) (sl : Sl) (sh : SH) (sw sx : ByteArray) (hE : Env w) (hb : Bts N w sl (bytesI ev.b)) (hN : N ≤ w.heap.size) (hl : ev.b.length ≤ 1000000) (ho : ev.Ok) (hsh : sh ∈ shapesM) (hsw : sw.bytes = sh.2.1) (hsx : sx.bytes = sh.2.2) :
    Calls Tryd.prog 32 #[.agg (ev.arr sl), .agg #[.int .i64 sh.1, .string sw, .string sx]] w fun e w' => e = .returned (.string ⟨(lineE sh ev).toArray⟩) ∧ Fr [] w w' := by
  obtain ⟨i0, hi0, hz0, hz1, hz2⟩ := info_parts (show (Tryd.prog.info? 9).map (fun i => (i.zero, i.size, i.bytes)) = some (some (.string ByteArray.empty), 1, 16) by kernel_rfl)
  have hun : Tryd.prog.underlying 60 = some (.slice 9) := Tryd.underlying60
  have hsx6 : sx.size ≤ 6 := by have := (shape_ok hsh).2.2.2.2.1; rw [← hsx] at this; exact this
  have HSH := Lib.hid (And.intro hsh (And.intro hsw hsx))
  have HE := Lib.hid (And.intro hE (And.intro hb (And.intro hN (And.intro hl ho))))
  have f3 : Fr [] w (((w.alloc (.cells (ev.arr sl) 63)).alloc (.cells #[.int .i64 sh.1, .string sw, .string sx] 81)).alloc (.cells #[.string sw] 9)) := (((Fr.refl [] w).alloc _).alloc _).alloc _
  have h3e : Blk (((w.alloc (.cells (ev.arr sl) 63)).alloc (.cells #[.int .i64 sh.1, .string sw, .string sx] 81)).alloc (.cells #[.string sw] 9)) w.heap.size (ev.arr sl) 63 := ((Blk.new w _ _).alloc _).alloc _
  have h3s : Blk (((w.alloc (.cells (ev.arr sl) 63)).alloc (.cells #[.int .i64 sh.1, .string sw, .string sx] 81)).alloc (.cells #[.string sw] 9)) (w.heap.size + 1) #[.int .i64 sh.1, .string sw, .string sx] 81 := by
    have := (Blk.new (w.alloc (.cells (ev.arr sl) 63)) #[.int .i64 sh.1, .string sw, .string sx] 81).alloc (.cells #[.string sw] 9)
    simpa using this
  have h3w : Blk (((w.alloc (.cells (ev.arr sl) 63)).alloc (.cells #[.int .i64 sh.1, .string sw, .string sx] 81)).alloc (.cells #[.string sw] 9)) (w.heap.size + 1 + 1) #[.string sw] 9 := by
    have := Blk.new ((w.alloc (.cells (ev.arr sl) 63)).alloc (.cells #[.int .i64 sh.1, .string sw, .string sx] 81)) #[.string sw] 9
    simpa using this
  have hfl := U8.scr_fields _ w.heap.size h3e.lt
  have H3 := Lib.hid (And.intro f3 (And.intro h3e (And.intro h3s h3w)))
  clear hE hb hN hl ho hsh hsw hsx f3 h3e h3s h3w
  go_enter Tryd.func32, Tryd.ntmps32
  go_wp2_with fail
  refine hfl.mono ?_
  rintro e w5 ⟨M, rfl, hm5, hMs, f5⟩
  have H5 : Hid (SaAt w ev sl sh sw sx w.heap.size (w.heap.size + 1) M 0 ⟨some ⟨w.heap.size + 1 + 1, 0, none⟩, 1, 1⟩ w5) := Lib.hid (by
    refine ⟨H3.out.1.tr f5, H3.out.2.1.fr f5 (by simp), H3.out.2.2.1.fr f5 (by simp), ⟨N, (HE.out.2.1.fr H3.out.1).fr f5, HE.out.2.2.1⟩, hm5, ?_⟩
    have h1 := own_fr (ownsRow_blk (B := w.heap.size) H3.out.2.2.2 (by omega) (by unfold maxLen; simp)) f5
    have : sw = ⟨sh.2.1.toArray⟩ := ba_bytes HSH.out.2.1
    rw [this] at h1
    simpa [sv] using h1)
  have HB : Hid (∀ x : Nat, x = x) := Lib.hid (fun _ => rfl)
  obtain ⟨E, hEe⟩ : ∃ E, w.heap.size = E := ⟨_, rfl⟩
  obtain ⟨S, hSs⟩ : ∃ S, w.heap.size + 1 = S := ⟨_, rfl⟩
  obtain ⟨W0, hW0⟩ : ∃ W0, w.heap.size + 1 + 1 = W0 := ⟨_, rfl⟩
  have H5 : Hid (SaAt w ev sl sh sw sx E S M 0 ⟨some ⟨W0, 0, none⟩, 1, 1⟩ w5) := Lib.hid (by
    have h5 := H5.out
    rw [hW0, hSs, show SaAt w ev sl sh sw sx w.heap.size S M 0 ⟨some ⟨W0, 0, none⟩, 1, 1⟩ w5 = SaAt w ev sl sh sw sx E S M 0 ⟨some ⟨W0, 0, none⟩, 1, 1⟩ w5 by rw [hEe]] at h5
    exact h5)
  rw [hW0, hSs, hEe]
  have HES : Hid (w.heap.size = E) := Lib.hid hEe
  have g2 := H5.out.s.cell 2 rfl
  simp only [List.getElem_toArray, List.getElem_cons_zero, List.getElem_cons_succ] at g2
  clear hfl hm5 hMs f5 hEe hSs hW0 HB H3
  go_wp2
  clear g2
  go_loopw [5, 16] (fun wv i wr => ∃ (q : Nat) (sr : Sl), wv = .slice sr.A sr.n sr.c ∧ i = .int .i64 (q : Int) ∧ q ≤ sx.size ∧ SaAt w ev sl sh sw sx E S M q sr wr) (fun _ i _ => sx.size - (intOf i).toNat)
  case atStart => exact ⟨0, _, rfl, rfl, by omega, H5.out⟩
  case round =>
    obtain ⟨q, sr, rfl, rfl, hq, hp⟩ := hrel
    have HP := Lib.hid hp
    have g2 := hp.s.cell 2 rfl
    simp only [List.getElem_toArray, List.getElem_cons_zero, List.getElem_cons_succ] at g2
    by_cases hlt : q < sx.size
    · have d1 : (q : Int) < (sx.size : Int) := by omega
      have wq : IntKind.i64.wrap ((q : Int) + 1) = (q : Int) + 1 := IntWalk.i64_in _ (by omega)
      have hcl : sx[q] ∈ letters := (shape_ok HSH.out.1).1 _ (by rw [← HSH.out.2.2]; exact List.getElem_mem (l := sx.data.toList) (by exact hlt))
      have c6 := hp.e.cell 6 rfl
      have c7 := hp.e.cell 7 rfl
      simp only [List.getElem_toArray, List.getElem_cons_zero, List.getElem_cons_succ] at c6 c7
      have hEr : Env wr := HE.out.1.fr0 hp.f
      by_cases hcp : sx[q] = 112
      · have qa : ((sx[q].toNat : Int) == 112) = true := by rw [hcp]; rfl
        have HF := Lib.hid (And.intro hp.f hp.row)
        have HE8 := Lib.hid (And.intro hp.e (And.intro hp.s (And.intro hp.m hp.b)))
        cases hpo : ev.po with
        | true =>
          rw [hpo] at c6
          have HV : Hid (wordF ev sx[q] = [49]) := Lib.hid (by rw [hcp]; unfold wordF; rw [if_pos rfl, hpo]; rfl)
          clear hcp hcl hp hEr c7 hpo
          have hbw : w.heap.size ≤ (wr).heap.size := HF.out.1.size
          go_wp2_with (at_builtin; refine wpList_append_src rfl _ _ 60 rfl (w.heap.size) 9 i0 (.string ByteArray.empty) 1 16 hun hi0 hz0 hz1 hz2 rfl (by decide) _ _ _ rfl (HF.out.2.alloc _) _ 1 [.string ⟨#[49]⟩] rfl Src.one rfl (by intro u hu; simp at hu; subst hu; rfl) (by unfold maxLen; omega) (by omega) (by first | (simp; done) | (simp; omega)) ?_)
          intro v' w8 hown8 hgrow
          obtain ⟨sn, rfl⟩ := own_sl' hown8
          have HN : Hid (SaAt w ev sl sh sw sx E S M (q + 1) sn w8) := Lib.hid (by
            have fg : Fr [] w w8 := (HF.out.1.alloc (.cells #[.string ⟨#[49]⟩] 9)).grown hgrow (fun k hk => .inr (HF.out.2.lt k hk).1)
            have fr8 : Fr sr.blk ((wr).alloc (.cells #[.string ⟨#[49]⟩] 9)) w8 := Fr.grownL hgrow
            have hk : ∀ b cs t, t ≠ 9 → Blk (wr) b cs t → Blk w8 b cs t := fun b cs t ht hb => (hb.alloc (.cells #[.string ⟨#[49]⟩] 9)).fr fr8 ((hb.alloc (.cells #[.string ⟨#[49]⟩] 9)).off (HF.out.2.alloc (.cells #[.string ⟨#[49]⟩] 9)) ht)
            refine ⟨fg, hk _ _ _ (by decide) HE8.out.1, hk _ _ _ (by decide) HE8.out.2.1, (HE8.out.2.2.2.alloc (.cells #[.string ⟨#[49]⟩] 9)).fr' fr8 (fun x hx => own_blk (HF.out.2.alloc (.cells #[.string ⟨#[49]⟩] 9)) x hx), ?_, ?_⟩
            · exact (HE8.out.2.2.1.alloc (.cells #[.string ⟨#[49]⟩] 9)).frM fr8 (fun x hx => (own_blk (HF.out.2.alloc (.cells #[.string ⟨#[49]⟩] 9)) x hx).2)
            · have e1 : sh.2.2.take (q + 1) = sh.2.2.take q ++ [sx[q]] := by
                rw [← HSH.out.2.2, List.take_succ_eq_append_getElem (by exact hlt)]; rfl
              rw [e1, List.map_append, ← List.cons_append, List.map_append]
              simpa [HV.out, sv] using hown8)
          clear hown8 hgrow
          go_wp2
          go_roundw
          case rel => exact ⟨q + 1, sn, rfl, by go_num, by omega, HN.out⟩
          case measure => simp [intOf]; omega
        | false =>
          rw [hpo] at c6
          have HV : Hid (wordF ev sx[q] = [48]) := Lib.hid (by rw [hcp]; unfold wordF; rw [if_pos rfl, hpo]; rfl)
          clear hcp hcl hp hEr c7 hpo
          have hbw : w.heap.size ≤ (wr).heap.size := HF.out.1.size
          go_wp2_with (at_builtin; refine wpList_append_src rfl _ _ 60 rfl (w.heap.size) 9 i0 (.string ByteArray.empty) 1 16 hun hi0 hz0 hz1 hz2 rfl (by decide) _ _ _ rfl (HF.out.2.alloc _) _ 1 [.string ⟨#[48]⟩] rfl Src.one rfl (by intro u hu; simp at hu; subst hu; rfl) (by unfold maxLen; omega) (by omega) (by first | (simp; done) | (simp; omega)) ?_)
          intro v' w8 hown8 hgrow
          obtain ⟨sn, rfl⟩ := own_sl' hown8
          have HN : Hid (SaAt w ev sl sh sw sx E S M (q + 1) sn w8) := Lib.hid (by
            have fg : Fr [] w w8 := (HF.out.1.alloc (.cells #[.string ⟨#[48]⟩] 9)).grown hgrow (fun k hk => .inr (HF.out.2.lt k hk).1)
            have fr8 : Fr sr.blk ((wr).alloc (.cells #[.string ⟨#[48]⟩] 9)) w8 := Fr.grownL hgrow
            have hk : ∀ b cs t, t ≠ 9 → Blk (wr) b cs t → Blk w8 b cs t := fun b cs t ht hb => (hb.alloc (.cells #[.string ⟨#[48]⟩] 9)).fr fr8 ((hb.alloc (.cells #[.string ⟨#[48]⟩] 9)).off (HF.out.2.alloc (.cells #[.string ⟨#[48]⟩] 9)) ht)
            refine ⟨fg, hk _ _ _ (by decide) HE8.out.1, hk _ _ _ (by decide) HE8.out.2.1, (HE8.out.2.2.2.alloc (.cells #[.string ⟨#[48]⟩] 9)).fr' fr8 (fun x hx => own_blk (HF.out.2.alloc (.cells #[.string ⟨#[48]⟩] 9)) x hx), ?_, ?_⟩
            · exact (HE8.out.2.2.1.alloc (.cells #[.string ⟨#[48]⟩] 9)).frM fr8 (fun x hx => (own_blk (HF.out.2.alloc (.cells #[.string ⟨#[48]⟩] 9)) x hx).2)
            · have e1 : sh.2.2.take (q + 1) = sh.2.2.take q ++ [sx[q]] := by
                rw [← HSH.out.2.2, List.take_succ_eq_append_getElem (by exact hlt)]; rfl
              rw [e1, List.map_append, ← List.cons_append, List.map_append]
              simpa [HV.out, sv] using hown8)
          clear hown8 hgrow
          go_wp2
          go_roundw
          case rel => exact ⟨q + 1, sn, rfl, by go_num, by omega, HN.out⟩
          case measure => simp [intOf]; omega
      · have qa : ((sx[q].toNat : Int) == 112) = false := by
          rw [beq_eq_false_iff_ne]; intro e; exact hcp (UInt8.toNat.inj (by rw [show (112 : UInt8).toNat = 112 from rfl]; omega))
        by_cases hcb : sx[q] = 98
        · have qb : ((sx[q].toNat : Int) == 98) = true := by rw [hcb]; rfl
          have HV : Hid (wordF ev sx[q] = hexM ev.b) := Lib.hid (by rw [hcb]; rfl)
          obtain ⟨Nb, hb1, hb2⟩ := hp.b
          have hhx := scr_hex wr Nb sl ev.b hb1 HE.out.2.2.2.1
          clear hcp hcb hcl hp hEr c6 hb1 hb2
          go_wp2_with fail
          refine hhx.mono ?_
          rintro e w6 ⟨rfl, f6⟩
          have HF := Lib.hid (And.intro (HP.out.f.tr f6) (own_fr HP.out.row f6))
          have HE8 := Lib.hid (And.intro (HP.out.e.fr f6 (by simp)) (And.intro (HP.out.s.fr f6 (by simp)) (And.intro (HP.out.m.fr f6 (by simp)) (HP.out.b.fr0 f6))))
          clear hhx f6 c7
          have hbw : w.heap.size ≤ (w6).heap.size := HF.out.1.size
          go_wp2_with (at_builtin; refine wpList_append_src rfl _ _ 60 rfl (w.heap.size) 9 i0 (.string ByteArray.empty) 1 16 hun hi0 hz0 hz1 hz2 rfl (by decide) _ _ _ rfl (HF.out.2.alloc _) _ 1 [.string ⟨(hexM ev.b).toArray⟩] rfl Src.one rfl (by intro u hu; simp at hu; subst hu; rfl) (by unfold maxLen; omega) (by omega) (by first | (simp; done) | (simp; omega)) ?_)
          intro v' w8 hown8 hgrow
          obtain ⟨sn, rfl⟩ := own_sl' hown8
          have HN : Hid (SaAt w ev sl sh sw sx E S M (q + 1) sn w8) := Lib.hid (by
            have fg : Fr [] w w8 := (HF.out.1.alloc (.cells #[.string ⟨(hexM ev.b).toArray⟩] 9)).grown hgrow (fun k hk => .inr (HF.out.2.lt k hk).1)
            have fr8 : Fr sr.blk ((w6).alloc (.cells #[.string ⟨(hexM ev.b).toArray⟩] 9)) w8 := Fr.grownL hgrow
            have hk : ∀ b cs t, t ≠ 9 → Blk (w6) b cs t → Blk w8 b cs t := fun b cs t ht hb => (hb.alloc (.cells #[.string ⟨(hexM ev.b).toArray⟩] 9)).fr fr8 ((hb.alloc (.cells #[.string ⟨(hexM ev.b).toArray⟩] 9)).off (HF.out.2.alloc (.cells #[.string ⟨(hexM ev.b).toArray⟩] 9)) ht)
            refine ⟨fg, hk _ _ _ (by decide) HE8.out.1, hk _ _ _ (by decide) HE8.out.2.1, (HE8.out.2.2.2.alloc (.cells #[.string ⟨(hexM ev.b).toArray⟩] 9)).fr' fr8 (fun x hx => own_blk (HF.out.2.alloc (.cells #[.string ⟨(hexM ev.b).toArray⟩] 9)) x hx), ?_, ?_⟩
            · exact (HE8.out.2.2.1.alloc (.cells #[.string ⟨(hexM ev.b).toArray⟩] 9)).frM fr8 (fun x hx => (own_blk (HF.out.2.alloc (.cells #[.string ⟨(hexM ev.b).toArray⟩] 9)) x hx).2)
            · have e1 : sh.2.2.take (q + 1) = sh.2.2.take q ++ [sx[q]] := by
                rw [← HSH.out.2.2, List.take_succ_eq_append_getElem (by exact hlt)]; rfl
              rw [e1, List.map_append, ← List.cons_append, List.map_append]
              simpa [HV.out, sv] using hown8)
          clear hown8 hgrow
          go_wp2
          go_roundw
          case rel => exact ⟨q + 1, sn, rfl, by go_num, by omega, HN.out⟩
          case measure => simp [intOf]; omega
        · have qb : ((sx[q].toNat : Int) == 98) = false := by
            rw [beq_eq_false_iff_ne]; intro e; exact hcb (UInt8.toNat.inj (by rw [show (98 : UInt8).toNat = 98 from rfl]; omega))
          obtain ⟨l, cl, hml, hg⟩ := hp.m
          obtain ⟨o, ho1, ho2⟩ : ∃ o, U8.get l (sx[q].toNat : Int) = some (.pointer (some ⟨E, o, none⟩)) ∧ (ev.arr sl)[o]? = some (.int .i64 (ev.get sx[q])) := by
            obtain ⟨g1, g2, g3, g4, g5⟩ := hg
            simp only [letters, List.mem_cons, List.not_mem_nil, or_false] at hcl
            rcases hcl with h | h | h | h | h | h | h
            · rw [h]; exact ⟨_, g1, rfl⟩
            · rw [h]; exact ⟨_, g2, rfl⟩
            · rw [h]; exact ⟨_, g3, rfl⟩
            · rw [h]; exact ⟨_, g4, rfl⟩
            · rw [h]; exact ⟨_, g5, rfl⟩
            · exact absurd h hcp
            · exact absurd h hcb
          have HV : Hid (wordF ev sx[q] = Lib.itoa (ev.get sx[q])) := Lib.hid (by unfold wordF; rw [if_neg hcp, if_neg hcb])
          have hlk : (Instr.lookup 111 (.map (some M)) (.int .u8 (sx[q].toNat : Int)) false).run Tryd.prog wr = .ok (.pointer (some ⟨E, o, none⟩)) wr := by
            rw [U8.im_lookup hml Tryd.underlying111 Tryd.underlying5 (z := .pointer none) (by kernel_rfl), ho1]
            rfl
          have hco := hp.e.cell o ho2
          have hit := Tryd.strconv_Itoa (ev.get sx[q]) (HE.out.2.2.2.2.get sx[q]).1 (HE.out.2.2.2.2.get sx[q]).2 wr hEr.here
          generalize ev.get sx[q] = gx at hco hit HV
          clear hg hml ho1 ho2 hcp hcb hcl hp hEr c6 c7
          go_wp2_with fail
          refine hit.mono ?_
          rintro e w6 ⟨rfl, kk, os, hw6⟩
          have f6 : Fr [] wr w6 := by rw [hw6]; exact Fr.grown0 wr kk os
          have HF := Lib.hid (And.intro (HP.out.f.tr f6) (own_fr HP.out.row f6))
          have HE8 := Lib.hid (And.intro (HP.out.e.fr f6 (by simp)) (And.intro (HP.out.s.fr f6 (by simp)) (And.intro (HP.out.m.fr f6 (by simp)) (HP.out.b.fr0 f6))))
          clear hit f6 hw6 hlk hco
          have hbw : w.heap.size ≤ (w6).heap.size := HF.out.1.size
          go_wp2_with (at_builtin; refine wpList_append_src rfl _ _ 60 rfl (w.heap.size) 9 i0 (.string ByteArray.empty) 1 16 hun hi0 hz0 hz1 hz2 rfl (by decide) _ _ _ rfl (HF.out.2.alloc _) _ 1 [.string ⟨(Lib.itoa gx).toArray⟩] rfl Src.one rfl (by intro u hu; simp at hu; subst hu; rfl) (by unfold maxLen; omega) (by omega) (by first | (simp; done) | (simp; omega)) ?_)
          intro v' w8 hown8 hgrow
          obtain ⟨sn, rfl⟩ := own_sl' hown8
          have HN : Hid (SaAt w ev sl sh sw sx E S M (q + 1) sn w8) := Lib.hid (by
            have fg : Fr [] w w8 := (HF.out.1.alloc (.cells #[.string ⟨(Lib.itoa gx).toArray⟩] 9)).grown hgrow (fun k hk => .inr (HF.out.2.lt k hk).1)
            have fr8 : Fr sr.blk ((w6).alloc (.cells #[.string ⟨(Lib.itoa gx).toArray⟩] 9)) w8 := Fr.grownL hgrow
            have hk : ∀ b cs t, t ≠ 9 → Blk (w6) b cs t → Blk w8 b cs t := fun b cs t ht hb => (hb.alloc (.cells #[.string ⟨(Lib.itoa gx).toArray⟩] 9)).fr fr8 ((hb.alloc (.cells #[.string ⟨(Lib.itoa gx).toArray⟩] 9)).off (HF.out.2.alloc (.cells #[.string ⟨(Lib.itoa gx).toArray⟩] 9)) ht)
            refine ⟨fg, hk _ _ _ (by decide) HE8.out.1, hk _ _ _ (by decide) HE8.out.2.1, (HE8.out.2.2.2.alloc (.cells #[.string ⟨(Lib.itoa gx).toArray⟩] 9)).fr' fr8 (fun x hx => own_blk (HF.out.2.alloc (.cells #[.string ⟨(Lib.itoa gx).toArray⟩] 9)) x hx), ?_, ?_⟩
            · exact (HE8.out.2.2.1.alloc (.cells #[.string ⟨(Lib.itoa gx).toArray⟩] 9)).frM fr8 (fun x hx => (own_blk (HF.out.2.alloc (.cells #[.string ⟨(Lib.itoa gx).toArray⟩] 9)) x hx).2)
            · have e1 : sh.2.2.take (q + 1) = sh.2.2.take q ++ [sx[q]] := by
                rw [← HSH.out.2.2, List.take_succ_eq_append_getElem (by exact hlt)]; rfl
              rw [e1, List.map_append, ← List.cons_append, List.map_append]
              simpa [HV.out, sv] using hown8)
          clear hown8 hgrow
          go_wp2
          go_roundw
          case rel => exact ⟨q + 1, sn, rfl, by go_num, by omega, HN.out⟩
          case measure => simp [intOf]; omega
    · have hqe : q = sx.size := by omega
      have hwords : (sh.2.1 :: (sh.2.2.take q).map (wordF ev)) = wordsE sh ev := by
        unfold wordsE
        rw [List.take_of_length_le (by rw [← HSH.out.2.2]; show sx.size ≤ q; omega)]
      have hrow := hp.row
      rw [hwords] at hrow
      obtain ⟨b, hA, hc⟩ := own_at hrow (by omega)
      have hn : sr.n = q + 1 := own_n hrow
      have hcap : q + 1 ≤ sr.c := by
        obtain ⟨A', c', hv, hcap⟩ := own_cap hrow
        simp only [Sl.v, Value.slice.injEq] at hv
        obtain ⟨_, _, h9⟩ := hv
        omega
      obtain ⟨A, nn, cc⟩ := sr
      simp only at hA hn hcap
      subst hA hn hqe
      have hlen : (wordsE sh ev).length = sx.size + 1 := by simp only [wordsE, List.length_cons, List.length_map]; rw [← HSH.out.2.2]; rfl
      have hwl := wordsE_len HSH.out.1 ev HE.out.2.2.2.1 HE.out.2.2.2.2
      have hbw : b < wr.heap.size := by
        have := hc 0 (sv (wordsE sh ev)[0]) (by simp [List.getElem?_eq_getElem (show 0 < (wordsE sh ev).length by omega)])
        exact World.block_lt_of_cell? _ _ this
      have hbytes : ((wordsE sh ev).map fun x => (⟨x.toArray⟩ : ByteArray)).map ByteArray.bytes = wordsE sh ev := by rw [List.map_map]; exact List.map_id _
      have hr := scr_row wr b 0 cc ((wordsE sh ev).map fun x => ⟨x.toArray⟩) (fun j x hj => by
        rw [List.getElem?_map] at hj
        obtain ⟨y, hy, rfl⟩ := Option.map_eq_some_iff.1 hj
        have := hc j (sv y) (by simp [hy])
        rw [Nat.zero_add]
        exact this) hbw (by rw [List.length_map]; omega) (by rw [List.length_map]; omega) (by rw [hbytes]; exact hwl.1)
      rw [hbytes, List.length_map, hlen] at hr
      have hr2 : Calls Tryd.prog 30 #[.slice (some ⟨b, 0, none⟩) (sx.size + 1) cc] wr fun e w' => e = .returned (.string ⟨(lineE sh ev).toArray⟩) ∧ Fr [] wr w' := hr
      clear hp hwords hrow hc hcap hlen hwl hbw hbytes hr
      go_wp2_with fail
      refine hr2.mono ?_
      rintro e w6 ⟨rfl, f6⟩
      have HF := Lib.hid (HP.out.f.tr f6)
      clear hr2 f6
      go_wp2
      go_ret
      exact ⟨rfl, HF.out⟩
end Go.Proofs.YtodlbajpcbdbaaaDoor
namespace Go.Proofs.YtodlbajpcbdbaaaDoor
open Go.RowKit
set_option linter.unusedVariables false
set_option linter.unusedSimpArgs false
set_option maxRecDepth 100000

/-- An entry. -/
structure IE where
  k : Int
  v : Value
  born : Nat
def IE.e (x : IE) : MapEntry := ⟨.int .i64 x.k, x.v, x.born⟩
abbrev ents (l : List IE) : Array MapEntry := (l.map IE.e).toArray
def get (l : List IE) (n : Int) : Option Value := (l.find? (·.k == n)).map (·.v)

theorem findNow_int (n : Int) : ∀ (l : List IE) (i : Nat), Instr.findNow (.int .i64) (.int .i64 n) (l.map IE.e) i = some (((l.findIdx? (·.k == n)).map (· + i)).bind fun j => (l[j - i]?).map fun x => (j, x.v))
  | [], i => rfl
  | x :: l, i => by
    have ih := findNow_int n l (i + 1)
    show (match Instr.sameNow (.int .i64) (.int .i64 n) (.int .i64 x.k) with | some true => some (some (i, x.v)) | some false => Instr.findNow (.int .i64) (.int .i64 n) (l.map IE.e) (i + 1) | none => none) = _
    by_cases h : x.k = n
    · have : Instr.sameNow (.int .i64) (.int .i64 n) (.int .i64 x.k) = some true := by simp [Instr.sameNow, h]
      rw [this]
      simp [List.findIdx?_cons, h]
    · have : Instr.sameNow (.int .i64) (.int .i64 n) (.int .i64 x.k) = some false := by simp [Instr.sameNow]; exact fun e => h e.symm
      rw [this]
      dsimp only
      rw [ih]
      have hb : (x.k == n) = false := by simpa using h
      simp only [List.findIdx?_cons, hb, Bool.false_eq_true, if_false]
      cases hf : l.findIdx? (·.k == n) with
      | none => simp
      | some j =>
        simp only [Option.map_some, Option.bind_some]
        rw [show j + 1 + i - i = j + 1 by omega, show j + (i + 1) - (i + 1) = j by omega, List.getElem?_cons_succ, show j + 1 + i = j + (i + 1) by omega]

theorem getI_eq (l : List IE) (n : Int) : get l n = ((l.findIdx? (·.k == n)).bind fun j => (l[j]?).map (·.v)) := by
  unfold get
  induction l with
  | nil => rfl
  | cons x l ih =>
    simp only [List.find?_cons, List.findIdx?_cons]
    by_cases hx : (x.k == n) = true
    · simp [hx]
    · simp only [hx, Bool.false_eq_true, if_false]
      rw [ih]
      cases l.findIdx? (·.k == n) <;> simp

section
open Go.ChangeMaps Go.MapKept
variable {P : Program} {w : World} {b : Nat} {l : List IE} {clock : Nat} {t k e : TypeId}

theorem run_checkInt (hk : P.underlying k = some (.int .i64)) (em : Bool) (n : Int) : (Instr.checkKey em 10000 k (.int .i64 n)).run P w = .ok () w := by
  show (Instr.checkKey em (9999 + 1) k (.int .i64 n)).run P w = .ok () w
  unfold Instr.checkKey
  simp [run_underlying hk, Result.andThen, Sem.run_bind]

theorem run_findInt (hk : P.underlying k = some (.int .i64)) (n : Int) : (Instr.findKey k (.int .i64 n) (ents l).toList).run P w = .ok ((l.findIdx? (·.k == n)).bind fun j => (l[j]?).map fun x => (j, x.v)) w := by
  have h := findNow_int n l 0
  simp only [Nat.add_zero, Nat.sub_zero, Option.map_id_fun', id_eq] at h
  unfold Instr.findKey
  simp only [run_underlying hk, Result.andThen, Sem.run_bind, ents, h]
  rfl

theorem im_lookup (h : w.heap[b]? = some (.map (ents l) clock)) (ht : P.underlying t = some (.map k e)) (hk : P.underlying k = some (.int .i64)) {z : Value} (hz : (zeroValue e).run P w = .ok z w) (n : Int) (ok : Bool) :
    (Instr.lookup t (.map (some b)) (.int .i64 n) ok).run P w = .ok (if ok then .tuple #[(get l n).getD z, .bool (get l n).isSome] else (get l n).getD z) w := by
  have hf := run_findInt (P := P) (w := w) (l := l) hk n
  rw [getI_eq]
  cases hi : l.findIdx? (·.k == n) with
  | none =>
    rw [hi] at hf
    simp only [Option.bind_none] at hf ⊢
    simp [Instr.lookup, run_underlying ht, MapKept.run_getObj_map h, run_checkInt hk, hf, hz, Result.andThen]
  | some j =>
    rw [hi] at hf
    have hj : j < l.length := by
      have := List.findIdx?_eq_some_iff_findIdx_eq.1 hi
      exact this.1
    simp only [Option.bind_some, List.getElem?_eq_getElem hj, Option.map_some] at hf ⊢
    simp [Instr.lookup, run_underlying ht, MapKept.run_getObj_map h, run_checkInt hk, hf, Result.andThen]

theorem im_lookup_nil (ht : P.underlying t = some (.map k e)) (hk : P.underlying k = some (.int .i64)) {z : Value} (hz : (zeroValue e).run P w = .ok z w) (n : Int) (ok : Bool) :
    (Instr.lookup t (.map none) (.int .i64 n) ok).run P w = .ok (if ok then .tuple #[z, .bool false] else z) w := by
  have hf := run_findInt (P := P) (w := w) (l := []) hk n
  simp only [List.findIdx?_nil, Option.bind_none, ents, List.map_nil] at hf
  simp [Instr.lookup, run_underlying ht, run_checkInt hk, hf, hz, Result.andThen]

theorem im_push (h : w.heap[b]? = some (.map (ents l) clock)) (ht : P.underlying t = some (.map k e)) (hk : P.underlying k = some (.int .i64)) (n : Int) (v : Value) (hn : get l n = none) :
    (Instr.mapUpdate t (.map (some b)) (.int .i64 n) v).run P w = .ok () (setBlock w b (.map (ents (l ++ [⟨n, v, clock⟩])) (clock + 1))) := by
  have hf := run_findInt (P := P) (w := w) (l := l) hk n
  rw [getI_eq] at hn
  have hi : l.findIdx? (·.k == n) = none := by
    cases hi : l.findIdx? (·.k == n) with
    | none => rfl
    | some j =>
      rw [hi] at hn
      have hj : j < l.length := (List.findIdx?_eq_some_iff_findIdx_eq.1 hi).1
      simp [List.getElem?_eq_getElem hj] at hn
  rw [hi] at hf
  simp only [Option.bind_none] at hf
  simp [Instr.mapUpdate, run_underlying ht, MapKept.run_getObj_map h, run_checkInt hk, hf, MapKept.run_setObj_map _ h, Result.andThen, setBlock, ents, IE.e]

theorem im_delete (h : w.heap[b]? = some (.map (ents l) clock)) (ht : P.underlying t = some (.map k e)) (hk : P.underlying k = some (.int .i64)) (hd : (l.map (·.k)).Nodup) (n : Int) (ty : TypeId) :
    (Builtin.delete_ #[t, k] ty #[.map (some b), .int .i64 n]).run P w = .ok (.tuple #[]) (setBlock w b (.map (ents (l.filter (·.k != n))) clock)) := by
  have hf := run_findInt (P := P) (w := w) (l := l) hk n
  cases hi : l.findIdx? (·.k == n) with
  | none =>
    rw [hi] at hf
    simp only [Option.bind_none] at hf
    have hfl : l.filter (·.k != n) = l := by
      rw [List.filter_eq_self]
      intro x hx
      rw [List.findIdx?_eq_none_iff] at hi
      have := hi x hx
      simpa using this
    rw [hfl]
    simp [Builtin.delete_, run_underlying ht, MapKept.run_getObj_map h, run_checkInt hk, hf, MapKept.run_setObj_map _ h, Result.andThen, setBlock]
  | some j =>
    rw [hi] at hf
    obtain ⟨hj, hj2⟩ := List.findIdx?_eq_some_iff_findIdx_eq.1 hi
    simp only [Option.bind_some, List.getElem?_eq_getElem hj, Option.map_some] at hf
    have hkj : l[j].k = n := by
      have := List.findIdx_getElem (xs := l) (p := (·.k == n)) (w := by rw [hj2]; exact hj)
      simp only [hj2] at this
      simpa using this
    have hfl : l.filter (·.k != n) = l.eraseIdx j := by
      have key : ∀ (l : List IE) (j : Nat) (hj : j < l.length), (l.map (·.k)).Nodup → l[j].k = n → l.filter (·.k != n) = l.eraseIdx j := by
        intro l
        induction l with
        | nil => intro j hj; simp at hj
        | cons x l ih =>
          intro j hj hd hk
          rw [List.map_cons, List.nodup_cons] at hd
          cases j with
          | zero =>
            simp only [List.getElem_cons_zero] at hk
            rw [List.eraseIdx_cons_zero, List.filter_cons, if_neg (by simp [hk]), List.filter_eq_self]
            intro y hy
            simp only [bne_iff_ne, ne_eq]
            exact fun e => hd.1 (by rw [hk, ← e]; exact List.mem_map_of_mem hy)
          | succ j =>
            have hj' : j < l.length := by simpa using hj
            simp only [List.getElem_cons_succ] at hk
            have hx : (x.k != n) = true := by
              simp only [bne_iff_ne, ne_eq]
              exact fun e => hd.1 (by rw [e, ← hk]; exact List.mem_map_of_mem (List.getElem_mem hj'))
            rw [List.eraseIdx_cons_succ, List.filter_cons, if_pos hx, ih j hj' hd.2 hk]
      exact key l j hj hd hkj
    rw [hfl]
    have he : (ents l).eraseIdxIfInBounds j = ents (l.eraseIdx j) := by
      have : j < (ents l).size := by simpa [ents] using hj
      simp only [Array.eraseIdxIfInBounds, this, dif_pos]
      apply Array.ext'
      simp [ents, map_eraseIdx]
    simp [Builtin.delete_, run_underlying ht, MapKept.run_getObj_map h, run_checkInt hk, hf, MapKept.run_setObj_map _ h, Result.andThen, setBlock, ents, map_eraseIdx]

theorem im_len (h : w.heap[b]? = some (.map (ents l) clock)) (ht : P.underlying t = some (.map k e)) (ty : TypeId) : (Builtin.len_ #[t] ty #[.map (some b)]).run P w = .ok (.int .i64 l.length) w := by
  simp [Builtin.len_, run_underlying ht, MapKept.run_getObj_map h, Result.andThen, ents, goInt]
end
end Go.Proofs.YtodlbajpcbdbaaaDoor
namespace Go.Proofs.YtodlbajpcbdbaaaDoor
open Go.RowKit
set_option linter.unusedVariables false
set_option linter.unusedSimpArgs false
set_option maxRecDepth 100000

theorem get_mod (n m : Int) (v : Value) : ∀ (l : List IE) (j : Nat), l.findIdx? (·.k == n) = some j → get (l.modify j fun x => ⟨n, v, x.born⟩) m = if m = n then some v else get l m
  | [], j, h => by simp at h
  | x :: r, j, h => by
    by_cases hx : x.k = n
    · have hj : j = 0 := by
        rw [List.findIdx?_cons] at h
        simp [hx] at h
        exact h.symm
      subst hj
      by_cases hm : m = n
      · subst hm
        simp [get]
      · have h1 : (n == m) = false := by simp; omega
        have h2 : (x.k == m) = false := by rw [hx]; exact h1
        simp [get, hm, h1, h2, List.find?_cons]
    · have hx' : (x.k == n) = false := by simpa using hx
      rw [List.findIdx?_cons, hx'] at h
      simp only [Bool.false_eq_true, if_false, Option.map_eq_some_iff] at h
      obtain ⟨j', h1, rfl⟩ := h
      have ih := get_mod n m v r j' h1
      rw [List.modify_succ_cons]
      unfold get at ih ⊢
      rw [List.find?_cons, List.find?_cons]
      by_cases hm : x.k = m
      · have h3 : ¬ m = n := fun e => hx (hm.trans e)
        simp [hm, h3]
      · have h4 : (x.k == m) = false := by simpa using hm
        rw [h4]
        exact ih
theorem get_snoc (l : List IE) (n m : Int) (v : Value) (c : Nat) (h : get l n = none) : get (l ++ [⟨n, v, c⟩]) m = if m = n then some v else get l m := by
  unfold get at h ⊢
  rw [List.find?_append]
  by_cases hm : m = n
  · subst hm
    have h0 : l.find? (·.k == m) = none := by simpa using h
    simp [h0]
  · have h1 : (n == m) = false := by simp; omega
    simp [hm, h1]
open Go.ChangeMaps Go.MapKept
variable {P : Program} {w : World} {b clock : Nat} {l : List IE} {t k e : TypeId}
theorem im_put (h : w.heap[b]? = some (.map (ents l) clock)) (ht : P.underlying t = some (.map k e)) (hk : P.underlying k = some (.int .i64)) (n : Int) (v : Value) :
    ∃ l' clock', (Instr.mapUpdate t (.map (some b)) (.int .i64 n) v).run P w = .ok () (setBlock w b (.map (ents l') clock')) ∧ ∀ m, get l' m = if m = n then some v else get l m := by
  cases hi : l.findIdx? (·.k == n) with
  | none =>
    have hn : get l n = none := by rw [getI_eq, hi]; rfl
    exact ⟨_, _, im_push h ht hk n v hn, fun m => get_snoc l n m v clock hn⟩
  | some j =>
    have hf := run_findInt (P := P) (w := w) (l := l) hk n
    rw [hi] at hf
    have hj : j < l.length := (List.findIdx?_eq_some_iff_findIdx_eq.1 hi).1
    have hkj : l[j].k = n := by
      have := (List.findIdx?_eq_some_iff_getElem.1 hi).2.1
      simpa using this
    refine ⟨l.modify j fun x => ⟨n, v, x.born⟩, clock, ?_, fun m => get_mod n m v l j hi⟩
    simp only [Option.bind_some, List.getElem?_eq_getElem hj, Option.map_some] at hf
    have hst : (Instr.keyThatStays (IE.e l[j]).key (.int .i64 n)).run P w = .ok (.int .i64 n) w := by
      show (Instr.keyThatStays (.int .i64 l[j].k) (.int .i64 n)).run P w = .ok (.int .i64 n) w
      have hsb : Instr.sameBits 10000 (.int .i64 n) (.int .i64 n) = true := by show Instr.sameBits (9999 + 1) (.int .i64 n) (.int .i64 n) = true; simp [Instr.sameBits]
      rw [hkj]; simp [Instr.keyThatStays, hsb]
    have hms : (List.map IE.e l).modify j (fun e => { key := .int .i64 n, val := v, born := e.born }) = List.map IE.e (l.modify j fun x => ⟨n, v, x.born⟩) := by
      apply List.ext_getElem?
      intro q
      simp only [List.getElem?_modify, List.getElem?_map]
      by_cases hq : j = q
      · subst hq
        rw [List.getElem?_eq_getElem hj]
        simp
        rfl
      · simp [hq]
    simp [Instr.mapUpdate, run_underlying ht, MapKept.run_getObj_map h, run_checkInt hk, hf, MapKept.run_setObj_map _ h, Result.andThen, setBlock, hj, hst, MapKept.run_setObj_map _ h]
    rw [hms]
end Go.Proofs.YtodlbajpcbdbaaaDoor
namespace Go.Proofs.YtodlbajpcbdbaaaDoor
open Go.RowKit
set_option linter.unusedVariables false
set_option linter.unusedSimpArgs false
set_option maxRecDepth 100000
open Go.ChangeMaps Go.MapKept

def OnlyMap (w : World) (M y : Nat) : Prop := M ≤ y ∧ (∃ l c, w.heap[y]? = some (.map (ents l) c)) ∧ ∀ z l c, M ≤ z → w.heap[z]? = some (.map l c) → z = y
def NoMap (w : World) (M : Nat) : Prop := ∀ z l c, M ≤ z → w.heap[z]? ≠ some (.map l c)
/-- What an operation of such a region does: it comes to a value; it lays the map; it comes to the map; it puts a key; it lays a cell. -/
inductive MK where
  | val (x : Value)
  | mk
  | mv
  | ins (k : Int) (x : Value)
  | cell (cs : Array Value) (t : TypeId)
def MK.fact (M : Nat) : MK → World → Value → Prop
  | .val x => fun _ v => v = x
  | .mk => fun w v => ∃ y, v = .map (some y) ∧ OnlyMap w M y
  | .mv => fun w v => ∃ y, v = .map (some y) ∧ OnlyMap w M y
  | .ins k x => fun w _ => ∃ y l c, OnlyMap w M y ∧ w.heap[y]? = some (.map (ents l) c) ∧ get l k = some x
  | .cell cs t => fun w v => ∃ x, v = .pointer (some ⟨x, 0, none⟩) ∧ M ≤ x ∧ Blk w x cs t
def MK.step (M : Nat) : MK → World → World → Prop
  | .val _ => fun w w' => w' = w
  | .mk => fun w w' => w' = w.alloc (.map #[] 0) ∧ NoMap w M
  | .mv => fun w w' => w' = w
  | .ins k x => fun w w' => ∃ y l c l' c', OnlyMap w M y ∧ w.heap[y]? = some (.map (ents l) c) ∧ w' = setBlock w y (.map (ents l') c') ∧ ∀ m, get l' m = if m = k then some x else get l m
  | .cell cs t => fun w w' => w' = w.alloc (.cells cs t)
def MK.key : MK → Option Int
  | .ins k _ => some k
  | _ => none
def MK.bad : MK → Bool
  | .mk => true
  | _ => false
theorem setBlk_far {w : World} {b c : Nat} {o : Obj} (h : c ≠ b) : (setBlock w b o).heap[c]? = w.heap[c]? := by
  simp [setBlock, Array.getElem?_setIfInBounds, Ne.symm h]
theorem setBlk_same {w : World} {b : Nat} {o p : Obj} (h : w.heap[b]? = some p) : (setBlock w b o).heap[b]? = some o := by
  have := (Array.getElem?_eq_some_iff.1 h).1
  simp [setBlock, this]
theorem Fr.setBlk {L : List Nat} {a w : World} (h : Fr L a w) {b : Nat} (o : Obj) (hb : b ∈ L ∨ a.heap.size ≤ b) : Fr L a (setBlock w b o) :=
  h.trans (M := [b]) ⟨rfl, rfl, rfl, by simp [setBlock], fun k hk hn => setBlk_far (by simpa using hn)⟩ (fun x hx => by simp at hx; subst hx; exact hb)
theorem heap_alloc_some {w : World} {b : Nat} {o p : Obj} (h : w.heap[b]? = some p) : (w.alloc o).heap[b]? = some p := by
  have := (Array.getElem?_eq_some_iff.1 h).1
  show (w.heap.push o)[b]? = _
  rw [Array.getElem?_push]
  rw [if_neg (by omega)]
  exact h
theorem heap_alloc_at {w : World} {o p : Obj} {z : Nat} (h : (w.alloc o).heap[z]? = some p) : w.heap[z]? = some p ∨ p = o := by
  change (w.heap.push o)[z]? = some p at h
  rw [Array.getElem?_push] at h
  split at h
  · right; simpa using h.symm
  · exact .inl h
theorem OnlyMap.cell {w : World} {M y : Nat} (h : OnlyMap w M y) (cs : Array Value) (t : TypeId) : OnlyMap (w.alloc (.cells cs t)) M y := by
  obtain ⟨h1, ⟨l, c, h2⟩, h3⟩ := h
  refine ⟨h1, ⟨l, c, heap_alloc_some h2⟩, fun z l' c' hz e => ?_⟩
  rcases heap_alloc_at e with e | e
  · exact h3 z l' c' hz e
  · cases e
theorem OnlyMap.put {w : World} {M y : Nat} (h : OnlyMap w M y) (l' : List IE) (c' : Nat) : OnlyMap (setBlock w y (.map (ents l') c')) M y := by
  obtain ⟨h1, ⟨l, c, h2⟩, h3⟩ := h
  refine ⟨h1, ⟨l', c', setBlk_same h2⟩, fun z l0 c0 hz e => ?_⟩
  by_cases hzy : z = y
  · exact hzy
  · rw [setBlk_far hzy] at e
    exact h3 z l0 c0 hz e
theorem OnlyMap.new {w : World} {M : Nat} (h : NoMap w M) (hM : M ≤ w.heap.size) : OnlyMap (w.alloc (.map #[] 0)) M w.heap.size := by
  refine ⟨hM, ⟨[], 0, ?_⟩, fun z l c hz e => ?_⟩
  · show (w.heap.push _)[w.heap.size]? = _
    simp
  · by_cases hzs : z = w.heap.size
    · exact hzs
    · exfalso
      change (w.heap.push _)[z]? = _ at e
      rw [Array.getElem?_push, if_neg hzs] at e
      exact h z l c hz e
theorem OnlyMap.uniq {w : World} {M y z : Nat} (h : OnlyMap w M y) (h' : OnlyMap w M z) : z = y := by
  obtain ⟨h1, ⟨l, c, h2⟩, _⟩ := h'
  exact h.2.2 z _ c h1 h2
theorem ents_inj : ∀ (a b : List IE), ents a = ents b → a = b := by
  have inj : ∀ (a b : List IE), a.map IE.e = b.map IE.e → a = b := by
    intro a
    induction a with
    | nil => intro b hb; cases b with | nil => rfl | cons _ _ => simp at hb
    | cons x r ih =>
      intro b hb
      cases b with
      | nil => simp at hb
      | cons y q =>
        simp only [List.map_cons, List.cons.injEq] at hb
        have hxy : x = y := by
          have := hb.1
          cases x; cases y
          simp only [IE.e, MapEntry.mk.injEq, Value.int.injEq] at this
          simp [this]
        rw [hxy, ih q hb.2]
  intro a b e
  exact inj a b (by simpa [ents] using e)
/-- A fact outlives another operation's step. -/
theorem MK.keep {M : Nat} {i j : MK} {w w' : World} {v : Value} (hk : ∀ k, i.key = some k → j.key ≠ some k) (hs : j.step M w w') (h : i.fact M w v) : i.fact M w' v := by
  cases j with
  | val x => simp only [MK.step] at hs; subst hs; exact h
  | mv => simp only [MK.step] at hs; subst hs; exact h
  | mk =>
    simp only [MK.step] at hs
    obtain ⟨rfl, hn⟩ := hs
    have bad : ∀ {y}, OnlyMap w M y → False := fun ho => by obtain ⟨h1, ⟨l, c, h2⟩, _⟩ := ho; exact hn _ _ c h1 h2
    cases i with
    | val y => exact h
    | mk => obtain ⟨y, _, ho⟩ := h; exact (bad ho).elim
    | mv => obtain ⟨y, _, ho⟩ := h; exact (bad ho).elim
    | ins k y => obtain ⟨y, _, _, ho, _⟩ := h; exact (bad ho).elim
    | cell cs t => obtain ⟨x, h1, h2, h3⟩ := h; exact ⟨x, h1, h2, h3.alloc _⟩
  | cell cs t =>
    simp only [MK.step] at hs
    subst hs
    cases i with
    | val y => exact h
    | mk => obtain ⟨y, h1, ho⟩ := h; exact ⟨y, h1, ho.cell _ _⟩
    | mv => obtain ⟨y, h1, ho⟩ := h; exact ⟨y, h1, ho.cell _ _⟩
    | ins k y => obtain ⟨y, l, c, ho, h1, h2⟩ := h; exact ⟨y, l, c, ho.cell _ _, heap_alloc_some h1, h2⟩
    | cell cs t => obtain ⟨x, h1, h2, h3⟩ := h; exact ⟨x, h1, h2, h3.alloc _⟩
  | ins k x =>
    simp only [MK.step] at hs
    obtain ⟨y, l, c, l', c', ho, h1, rfl, h2⟩ := hs
    cases i with
    | val z => exact h
    | mk => obtain ⟨z, e, hz⟩ := h; obtain rfl := ho.uniq hz; exact ⟨z, e, ho.put _ _⟩
    | mv => obtain ⟨z, e, hz⟩ := h; obtain rfl := ho.uniq hz; exact ⟨z, e, ho.put _ _⟩
    | cell cs t =>
      obtain ⟨z, e1, e2, e3⟩ := h
      refine ⟨z, e1, e2, ?_⟩
      have hne : z ≠ y := fun e => by subst e; rw [Blk, h1] at e3; cases e3
      rw [Blk, setBlk_far hne]
      exact e3
    | ins k' z =>
      obtain ⟨y0, l0, c0, hz, h3, h4⟩ := h
      obtain rfl := ho.uniq hz
      rw [h1] at h3
      simp only [Option.some.injEq, Obj.map.injEq] at h3
      obtain rfl := ents_inj _ _ h3.1
      refine ⟨_, l', c', ho.put _ _, setBlk_same h1, ?_⟩
      rw [h2 k']
      have := hk k' rfl
      rw [if_neg (fun e => this (by rw [← e]; rfl))]
      exact h4
def keysB (ks : List MK) : Bool := (List.range ks.length).all fun i => (List.range ks.length).all fun j => i == j || (match (ks[i]?).bind MK.key with | some k => decide ((ks[j]?).bind MK.key ≠ some k) | none => true)
theorem wp_region_map {P : Program} {id : Nat} {Q : Exit → Act → World → Prop} {t : Array Value} {df : List Deferred} {w : World} {all : List Oper} (ks : List MK) (n : Nat) (hn : decide (n ≤ all.length) = true) (hm : P.follows .mixedOrders = true)
    (hA : apartB (all.take n) = true) (hT : topoB .any all = true) (hsz : ((all.take n).all fun o => match o.dst with | some d => decide (d < t.size) | none => true) = true) (hW : tailB .any all n = true)
    (hkl : decide (ks.length = n) = true) (hkk : keysB ks = true)
    (hS : parStepsBG (Fr []) (fun i => (ks.getD i (.val undef)).step w.heap.size) (earlyB .any all n fun k => (ks.getD k (.val undef)).bad) (fun w' => NoMap w' w.heap.size) P .any all Q (fun i => (ks.getD i (.val undef)).fact w.heap.size) t w (all.take n) 0)
    (hDead : deadB .any all n (fun _ _ => false) = true)
    (hD : ∀ x w', Fr [] w w' → holds (fun i => (ks.getD i (.val undef)).fact w.heap.size) w' x (live n (fun _ _ => false)) → wpList P all.toArray Q (all.drop n) { tmps := fill (all.take n) 0 x t, defers := df } w') :
    (Code.region id all.toArray true).wp P Q { tmps := t, defers := df } w := by
  refine wp_region_keepsGB (Fr []) (fun i => (ks.getD i (.val undef)).step w.heap.size) (fun k => (ks.getD k (.val undef)).bad) (fun w' => NoMap w' w.heap.size) (fun _ _ => false) (fun i => (ks.getD i (.val undef)).fact w.heap.size) n hn hm hA hT hsz hW ((Fr.refl _ w).drewN 1) ?_ ?_ hDead ?_ (fun z l c hz e => by have : z < w.heap.size := (Array.getElem?_eq_some_iff.1 e).1; omega) hS hD
  · intro i w' w'' hi hf hs
    cases hk : ks.getD i (.val undef) with
    | val x => rw [hk] at hs; simp only [MK.step] at hs; subst hs; exact hf
    | mv => rw [hk] at hs; simp only [MK.step] at hs; subst hs; exact hf
    | mk => rw [hk] at hs; obtain ⟨rfl, _⟩ := hs; exact hf.alloc _
    | cell cs t => rw [hk] at hs; simp only [MK.step] at hs; subst hs; exact hf.alloc _
    | ins k x => rw [hk] at hs; obtain ⟨y, l, c, l', c', ho, _, rfl, _⟩ := hs; exact hf.setBlk _ (.inr ho.1)
  · intro i j w' w'' v hi hj hij hd hb hnc hf hs hv
    refine MK.keep (fun k hk => ?_) hs hv
    simp only [keysB, List.all_eq_true, List.mem_range, Bool.or_eq_true, beq_iff_eq] at hkk
    simp only [decide_eq_true_eq] at hkl
    have h1 := (hkk i (by omega) j (by omega)).resolve_left hij
    have gi : ks[i]? = some (ks.getD i (.val undef)) := by rw [List.getD_eq_getElem?_getD, List.getElem?_eq_getElem (by omega)]; rfl
    have gj : ks[j]? = some (ks.getD j (.val undef)) := by rw [List.getD_eq_getElem?_getD, List.getElem?_eq_getElem (by omega)]; rfl
    rw [gi, gj] at h1
    simp only [Option.bind_some, hk, decide_eq_true_eq] at h1
    exact h1
  · intro i w' w'' hi hb hf hs h
    cases hk : ks.getD i (.val undef) with
    | val x => rw [hk] at hs; simp only [MK.step] at hs; subst hs; exact h
    | mv => rw [hk] at hs; simp only [MK.step] at hs; subst hs; exact h
    | mk => rw [hk] at hb; cases hb
    | cell cs t =>
      rw [hk] at hs
      simp only [MK.step] at hs
      subst hs
      intro z l c hz e
      rcases heap_alloc_at e with e | e
      · exact h z l c hz e
      · cases e
    | ins k x =>
      rw [hk] at hs
      obtain ⟨y, l, c, l', c', ho, h1, _, _⟩ := hs
      exact (h y _ c ho.1 h1).elim
end Go.Proofs.YtodlbajpcbdbaaaDoor
namespace Go.Proofs.YtodlbajpcbdbaaaDoor
open Go.RowKit Go.Shelf Go.ChangeMaps Go.MapKept
set_option linter.unusedVariables false
set_option linter.unusedSimpArgs false
set_option maxRecDepth 100000

def headM (c : List Int) : List UInt8 := Lib.join ([110, 101, 116] :: c.map Lib.itoa) [32] ++ [10]
def lineD (e : EV) : List UInt8 := match findD e.d with | some s => lineE s e | none => []
def textM (c : List Int) (l : List EV) : List UInt8 := headM c ++ l.flatMap lineD
def anyNo (l : List EV) : Bool := l.any fun e => (findD e.d).isNone
def printM (c : List Int) (l : List EV) : Except Int (List UInt8) :=
  if anyNo l = true then .error 1 else if 2047 < l.length then .error 3 else if 65536 < (textM c l).length then .error 3 else .ok (textM c l)
def PrPost (c : List Int) (l : List EV) (e : Ending) : Prop := match printM c l with
  | .ok t => e = .returned (.tuple #[.string ⟨t.toArray⟩, .int .i64 0])
  | .error x => e = .returned (.tuple #[.string ByteArray.empty, .int .i64 x])
theorem PrPost.no {c : List Int} {l : List EV} {x : Int} (h : printM c l = .error x) : PrPost c l (.returned (.tuple #[.string ByteArray.empty, .int .i64 x])) := by unfold PrPost; rw [h]
theorem PrPost.ok {c : List Int} {l : List EV} {t : List UInt8} (h : printM c l = .ok t) : PrPost c l (.returned (.tuple #[.string ⟨t.toArray⟩, .int .i64 0])) := by unfold PrPost; rw [h]
theorem printM_no {c : List Int} {l : List EV} {q : Nat} {e : EV} (h : l[q]? = some e) (hd : findD e.d = none) : printM c l = .error 1 := by
  unfold printM
  rw [if_pos]
  unfold anyNo
  rw [List.any_eq_true]
  exact ⟨e, List.mem_of_getElem? h, by simp [hd]⟩
theorem anyNo_no {l : List EV} (h : ∀ j, j < l.length → ∀ e, l[j]? = some e → findD e.d ≠ none) : anyNo l = false := by
  unfold anyNo
  rw [List.any_eq_false]
  intro e he
  obtain ⟨j, hj, rfl⟩ := List.mem_iff_getElem.1 he
  have := h j hj _ (List.getElem?_eq_getElem hj)
  cases hf : findD l[j].d with
  | none => exact absurd hf this
  | some s => simp
theorem printM_many {c : List Int} {l : List EV} (h : anyNo l = false) (hl : 2047 < l.length) : printM c l = .error 3 := by
  unfold printM
  rw [if_neg (by simp [h]), if_pos hl]
theorem printM_long {c : List Int} {l : List EV} (h : anyNo l = false) (hl : ¬ 2047 < l.length) (ht : 65536 < (textM c l).length) : printM c l = .error 3 := by
  unfold printM
  rw [if_neg (by simp [h]), if_neg hl, if_pos ht]
theorem printM_ok {c : List Int} {l : List EV} (h : anyNo l = false) (hl : ¬ 2047 < l.length) (ht : ¬ 65536 < (textM c l).length) : printM c l = .ok (textM c l) := by
  unfold printM
  rw [if_neg (by simp [h]), if_neg hl, if_neg ht]
/-- The text of the first q events. -/
def accM (c : List Int) (l : List EV) (q : Nat) : List UInt8 := headM c ++ (l.take q).flatMap lineD
theorem accM_le (c : List Int) (l : List EV) (q : Nat) : (accM c l q).length ≤ (textM c l).length := by
  unfold accM textM
  conv => rhs; rw [← List.take_append_drop q l]
  simp only [List.flatMap_append, List.length_append]
  omega
theorem accM_all (c : List Int) (l : List EV) : accM c l l.length = textM c l := by unfold accM textM; rw [List.take_length]
theorem accM_zero (c : List Int) (l : List EV) : accM c l 0 = headM c := by unfold accM; simp
theorem accM_succ {c : List Int} {l : List EV} {q : Nat} {e : EV} {s : SH} (h : l[q]? = some e) (hs : findD e.d = some s) : accM c l (q + 1) = accM c l q ++ lineE s e := by
  obtain ⟨hq, he⟩ := List.getElem?_eq_some_iff.1 h
  unfold accM
  rw [List.take_succ_eq_append_getElem hq, he, List.flatMap_append, ← List.append_assoc]
  simp [lineD, hs]
theorem headM_len (c : List Int) (h : c.length = 17) (hc : ∀ x ∈ c, In64 x) : (Lib.join ([110, 101, 116] :: c.map Lib.itoa) [32]).length ≤ 1000 := by
  have h1 := lens_le 21 ([110, 101, 116] :: c.map Lib.itoa) (fun x hx => by
    rcases List.mem_cons.1 hx with rfl | hx
    · simp
    · obtain ⟨n, hn, rfl⟩ := List.mem_map.1 hx
      exact Lib.itoa_length_le n (hc n hn).1 (hc n hn).2)
  rw [Lib.join_length]
  simp only [List.length_cons, List.length_nil, List.length_map] at h1 ⊢
  omega
/-- The shapes' map, by their numbers. -/
def MapD (w : World) (M k : Nat) : Prop := ∃ l cl, w.heap[M]? = some (.map (ents l) cl) ∧ ∀ n, get l n = ((shapesM.take k).find? (·.1 == n)).map fun s => Value.agg (shC s).toArray
theorem MapD.fr0 {w w' : World} {M k : Nat} (h : MapD w M k) (f : Fr [] w w') : MapD w' M k := by
  obtain ⟨l, cl, h1, h2⟩ := h
  exact ⟨l, cl, f.keeps h1 (by simp), h2⟩
theorem MapD.new (w : World) : MapD (w.alloc (.map #[] 0)) w.heap.size 0 := ⟨[], 0, by rw [World.alloc]; simp [ents], fun n => rfl⟩
theorem shape_new : ∀ k : Fin 25, (shapesM.take k.val).find? (·.1 == (shapesM[k.val]'k.isLt).1) = none := by decide +kernel
theorem MapD.push {w : World} {M k : Nat} {s : SH} (h : MapD w M k) (hs : shapesM[k]? = some s) : ∃ l cl, ∀ wx, Fr [] w wx →
    (Instr.mapUpdate 79 (.map (some M)) (.int .i64 s.1) (.agg (shC s).toArray)).run Tryd.prog wx = .ok () (setBlock wx M (.map (ents l) cl)) ∧ MapD (setBlock wx M (.map (ents l) cl)) M (k + 1) := by
  obtain ⟨l, cl, h1, h2⟩ := h
  obtain ⟨hk, he⟩ := List.getElem?_eq_some_iff.1 hs
  have hnew : (shapesM.take k).find? (·.1 == s.1) = none := by rw [← he]; exact shape_new ⟨k, hk⟩
  have hg : get l s.1 = none := by rw [h2, hnew]; rfl
  refine ⟨l ++ [⟨s.1, .agg (shC s).toArray, cl⟩], cl + 1, fun wx f => ⟨im_push (f.keeps h1 (by simp)) Tryd.underlying79 Tryd.underlying3 s.1 _ hg, _, _, setBlk_same (f.keeps h1 (by simp)), fun n => ?_⟩⟩
  rw [get_snoc l s.1 n _ cl hg, h2, List.take_succ_eq_append_getElem hk, he, List.find?_append]
  by_cases hn : n = s.1
  · subst hn
    rw [if_pos rfl, hnew]
    simp
  · rw [if_neg hn]
    have : (s.1 == n) = false := by simpa using fun e => hn e.symm
    simp only [List.find?_cons, this, List.find?_nil, Option.or_none]
theorem MapD.look {w : World} {M : Nat} (h : MapD w M 25) (n : Int) (ok : Bool) :
    (Instr.lookup 79 (.map (some M)) (.int .i64 n) ok).run Tryd.prog w = .ok (if ok then .tuple #[((findD n).map fun s => Value.agg (shC s).toArray).getD (.agg #[.int .i64 0, .string ByteArray.empty, .string ByteArray.empty]), .bool (findD n).isSome] else ((findD n).map fun s => Value.agg (shC s).toArray).getD (.agg #[.int .i64 0, .string ByteArray.empty, .string ByteArray.empty])) w := by
  obtain ⟨l, cl, h1, h2⟩ := h
  have h3 := im_lookup h1 Tryd.underlying79 Tryd.underlying3 (z := .agg #[.int .i64 0, .string ByteArray.empty, .string ByteArray.empty]) (by kernel_rfl) n ok
  rw [h2, show shapesM.take 25 = shapesM from rfl, show shapesM.find? (·.1 == n) = findD n from rfl, Option.isSome_map] at h3
  exact h3
theorem isBuilder_fr {w w' : World} {B b : Nat} {bs : List Value} (h : Lib.IsBuilder 90 5 B b bs w) (f : Fr [] w w') : Lib.IsBuilder 90 5 B b bs w' := by
  rcases h with ⟨h0, v, h1, h2, h3⟩ | ⟨h0, v, h1, h2, h3⟩
  · exact .inl ⟨h0, v, f.keeps h1 (by simp), own_fr h2 f, h3⟩
  · exact .inr ⟨h0, v, f.keeps h1 (by simp), own_fr h2 f, h3⟩
theorem strCells_mk (l : List UInt8) : Lib.strCells ⟨l.toArray⟩ = Lib.byteCells l := rfl
theorem byteCells_app (a b : List UInt8) : Lib.byteCells a ++ Lib.byteCells b = Lib.byteCells (a ++ b) := by simp [Lib.byteCells]
end Go.Proofs.YtodlbajpcbdbaaaDoor
namespace Go.Proofs.YtodlbajpcbdbaaaDoor
open Go.RowKit Go.Shelf Go.ChangeMaps Go.MapKept
set_option linter.unusedVariables false
set_option linter.unusedSimpArgs false
set_option maxRecDepth 100000

structure PrAt (w : World) (R M : Nat) (c : List Int) (N : Nat) (ss : Sl) (k : Nat) (wr : World) : Prop where
  f : Fr [] w wr
  r : Blk wr R (intsV c) 30
  m : MapD wr M k
  s : wr.ownsRow N 81 3 ss.v 25 (shapesM.flatMap shC)
theorem PrAt.fr {w wr w' : World} {R M N k : Nat} {c : List Int} {ss : Sl} (h : PrAt w R M c N ss k wr) (f : Fr [] wr w') : PrAt w R M c N ss k w' := ⟨h.f.tr f, h.r.fr f (by simp), h.m.fr0 f, own_fr h.s f⟩
structure WdAt (w5 : World) (R PB : Nat) (c : List Int) (q : Nat) (sr : Sl) (wr : World) : Prop where
  f : Fr [] w5 wr
  p : Blk wr PB (numPs R) 86
  row : wr.ownsRow w5.heap.size 9 1 sr.v (q + 1) (([110, 101, 116] :: (c.take q).map Lib.itoa).map sv)
set_option maxRecDepth 100000 in
set_option maxHeartbeats 16000000 in
theorem scr_Print (w : World) (N : Nat) (sl : Sl) (c : List Int) (l : List EV) (hE : Env w) (hc : c.length = 17) (hci : ∀ x ∈ c, In64 x) (hrow : ERow N 0 sl l w) (hN : N ≤ w.heap.size) (hl : l.length ≤ 1000000) (hb : ∀ e ∈ l, e.b.length ≤ 1000000 ∧ e.Ok) :
    Calls Tryd.prog 13 #[.agg (intsV c), .slice sl.A sl.n sl.c] w fun e w' => PrPost c l e ∧ Fr [] w w' := by
  have hn : sl.n = l.length := RowG.n hrow
  have hun : Tryd.prog.underlying 60 = some (.slice 9) := Tryd.underlying60
  obtain ⟨i0, hi0, hz0, hz1, hz2⟩ := info_parts (show (Tryd.prog.info? 9).map (fun i => (i.zero, i.size, i.bytes)) = some (some (.string ByteArray.empty), 1, 16) by kernel_rfl)
  obtain ⟨sA, sn, sc⟩ := sl
  simp only at hn
  subst hn
  have fa : Fr [] w ((w.alloc (.cells (intsV c) 30)).alloc (.map #[] 0)) := ((Fr.refl [] w).alloc _).alloc _
  have hbR : Blk ((w.alloc (.cells (intsV c) 30)).alloc (.map #[] 0)) w.heap.size (intsV c) 30 := (Blk.new w _ _).alloc _
  have hmD := MapD.new (w.alloc (.cells (intsV c) 30))
  have hsp := scr_shapes _ (hE.fr0 fa)
  have HE := Lib.hid (And.intro hE (And.intro hc (And.intro hci (And.intro hrow (And.intro hN hb)))))
  have HA := Lib.hid (And.intro fa (And.intro hbR hmD))
  have hmk : (Instr.makeMap 79 none).run Tryd.prog (w.alloc (.cells (intsV c) 30)) = .ok (.map (some (w.alloc (.cells (intsV c) 30)).heap.size)) ((w.alloc (.cells (intsV c) 30)).alloc (.map #[] 0)) := by kernel_rfl
  clear hE hc hci hrow hN hb fa hbR hmD
  go_enter Tryd.func13, Tryd.ntmps13
  go_wp2_with fail
  refine hsp.mono ?_
  rintro e w3 ⟨ss, rfl, hsr, f3⟩
  have hsn : ss.n = 25 := own_n hsr
  obtain ⟨R, hR⟩ : ∃ R, w.heap.size = R := ⟨_, rfl⟩
  obtain ⟨M, hM⟩ : ∃ M, (w.alloc (.cells (intsV c) 30)).heap.size = M := ⟨_, rfl⟩
  obtain ⟨N3, hN3⟩ : ∃ N3, ((w.alloc (.cells (intsV c) 30)).alloc (.map #[] 0)).heap.size = N3 := ⟨_, rfl⟩
  have hM2 : w.heap.size + 1 = M := by rw [← hM]; simp
  have H3 : Hid (PrAt w R M c N3 ss 0 w3) := Lib.hid ⟨HA.out.1.tr f3, by rw [← hR]; exact HA.out.2.1.fr f3 (by simp), by rw [← hM]; exact HA.out.2.2.fr0 f3, by rw [← hN3]; exact hsr⟩
  have HR : Hid (w.heap.size = R ∧ R + 1 = M) := Lib.hid ⟨hR, by omega⟩
  obtain ⟨sb, hsA, -⟩ := shape_cells hsr (by decide) (show shapesM[0]? = some _ from rfl)
  obtain ⟨ssA, ssn, ssc⟩ := ss
  simp only at hsA hsn
  subst hsA hsn
  rw [hM2, hR]
  clear hsp hsr f3 hM hM2 hN3 hR
  go_wp2
  go_loopw [22] (fun i wr => ∃ k : Nat, i = .int .i64 (k : Int) ∧ k ≤ 25 ∧ PrAt w R M c N3 ⟨some ⟨sb, 0, none⟩, 25, ssc⟩ k wr) (fun i _ => 25 - (intOf i).toNat)
  case atStart => exact ⟨0, rfl, by omega, H3.out⟩
  case round =>
    obtain ⟨k, rfl, hk, hp⟩ := hrel
    have HP := Lib.hid hp
    by_cases hlt : k < 25
    · have d1 : (k : Int) < 25 := by omega
      obtain ⟨sh, hsh⟩ : ∃ sh, shapesM[k]? = some sh := ⟨_, List.getElem?_eq_getElem (show k < shapesM.length from hlt)⟩
      obtain ⟨b', hb', g0, g1, g2⟩ := shape_cells hp.s (by decide) hsh
      simp only [Option.some.injEq, Addr.mk.injEq, and_true] at hb'
      subst hb'
      obtain ⟨sw, hsw, hvw⟩ := sv_ex sh.2.1
      obtain ⟨sx, hsx, hvx⟩ := sv_ex sh.2.2
      rw [hvw] at g1
      rw [hvx] at g2
      obtain ⟨l', cl', hup⟩ := hp.m.push hsh
      obtain ⟨hup1, hup2⟩ := hup (wr.alloc (.cells #[.int .i64 sh.1, .string sw, .string sx] 81)) ((Fr.refl [] wr).alloc _)
      have hrun : (Instr.mapUpdate 79 (.map (some M)) (.int .i64 sh.1) (.agg #[.int .i64 sh.1, .string sw, .string sx])).run Tryd.prog (wr.alloc (.cells #[.int .i64 sh.1, .string sw, .string sx] 81)) = .ok () (setBlock (wr.alloc (.cells #[.int .i64 sh.1, .string sw, .string sx] 81)) M (.map (ents l') cl')) := by
        rw [← hvw, ← hvx]
        rw [← hvw, ← hvx] at hup1
        exact hup1
      have HN : Hid (PrAt w R M c N3 ⟨some ⟨sb, 0, none⟩, 25, ssc⟩ (k + 1) (setBlock (wr.alloc (.cells #[.int .i64 sh.1, .string sw, .string sx] 81)) M (.map (ents l') cl'))) := Lib.hid (by
        have hM9 : Fr [M] wr (setBlock (wr.alloc (.cells #[.int .i64 sh.1, .string sw, .string sx] 81)) M (.map (ents l') cl')) := ((Fr.refl [M] wr).alloc _).setBlk _ (.inl (by simp))
        obtain ⟨l0, c0, hl0, -⟩ := HP.out.m
        have hne : R ≠ M := by have := HR.out.2; omega
        refine ⟨(HP.out.f.alloc _).setBlk _ (.inr (by have := HR.out; omega)), HP.out.r.fr hM9 (by simp; exact hne), hup2, own_ofTy HP.out.s hM9 (fun x hx cs f e => by simp at hx; subst hx; rw [hl0] at e; cases e)⟩)
      have wk : IntKind.i64.wrap ((k : Int) + 1) = (k : Int) + 1 := IntWalk.i64_in _ (by omega)
      clear hp hup hup1 hup2 hsh hsw hvw hsx hvx
      go_wp2
      go_roundw
      case rel => exact ⟨k + 1, by go_num, by omega, HN.out⟩
      case measure => simp [intOf]; omega
    · have hke : k = 25 := by omega
      subst hke
      obtain ⟨w4, hw4⟩ : ∃ w4, w4 = wr := ⟨_, rfl⟩
      subst hw4
      have HRW : Hid (ERow N 0 ⟨sA, l.length, sc⟩ l w4) := Lib.hid (ERow.fr hp.f HE.out.2.2.2.1)
      have HP4 := Lib.hid hp
      clear hp HP
      go_wp2
      go_loopw [33] (fun i wr => ∃ q : Nat, i = .int .i64 (q : Int) ∧ q ≤ l.length ∧ (∀ j, j < q → ∀ e, l[j]? = some e → findD e.d ≠ none) ∧ Fr [] w4 wr) (fun i _ => l.length - (intOf i).toNat)
      case atStart => exact ⟨0, rfl, by omega, fun j hj => by omega, Fr.refl _ _⟩
      case round =>
        obtain ⟨q, rfl, hq, hall, hf⟩ := hrel
        have HK := Lib.hid (And.intro hall hf)
        by_cases hlt : q < l.length
        · have d1 : (q : Int) < (l.length : Int) := by omega
          obtain ⟨ev, hev⟩ : ∃ ev, l[q]? = some ev := ⟨_, List.getElem?_eq_getElem hlt⟩
          obtain ⟨eb, sd, hA, hbt, g0, g1, g2, g3, g4, g5, g6, g7⟩ := ERow.get (ERow.fr hf HRW.out) hev
          simp only at hA
          subst hA
          have hlk := (HP4.out.m.fr0 (hf.alloc (.cells (ev.arr sd) 63))).look ev.d true
          have HQ := Lib.hid hev
          have wq : IntKind.i64.wrap ((q : Int) + 1) = (q : Int) + 1 := IntWalk.i64_in _ (by omega)
          clear hall hf hbt hev
          cases hfd : findD ev.d with
          | none =>
            rw [hfd] at hlk
            simp only [Option.map_none, Option.getD_none, Option.isSome_none, if_true] at hlk
            have HX : Hid (PrPost c l (.returned (.tuple #[.string ByteArray.empty, .int .i64 1]))) := Lib.hid (PrPost.no (printM_no HQ.out hfd))
            clear hfd
            go_wp2
            go_ret2
            exact ⟨HX.out, ((HP4.out.f.tr HK.out.2).alloc _).alloc _⟩
          | some sh =>
            rw [hfd] at hlk
            simp only [Option.map_some, Option.getD_some, Option.isSome_some, if_true, shC] at hlk
            obtain ⟨sw, hsw, hvw⟩ := sv_ex sh.2.1
            obtain ⟨sx, hsx, hvx⟩ := sv_ex sh.2.2
            rw [hvw, hvx] at hlk
            have HX : Hid (∀ j, j < q + 1 → ∀ e, l[j]? = some e → findD e.d ≠ none) := Lib.hid (fun j hj e he => by
              by_cases h9 : j = q
              · subst h9
                rw [HQ.out] at he
                cases he
                rw [hfd]
                simp
              · exact HK.out.1 j (by omega) e he)
            clear hfd hsw hvw hsx hvx
            go_wp2
            go_roundw
            case rel => exact ⟨q + 1, by go_num, by omega, HX.out, (HK.out.2.alloc _).alloc _⟩
            case measure => simp [intOf]; omega
        · have hqe : q = l.length := by omega
          subst hqe
          have HNO : Hid (anyNo l = false) := Lib.hid (anyNo_no hall)
          have HF5 := Lib.hid hf
          clear hall hf HK
          by_cases hlong : 2047 < l.length
          · have d2 : decide ((2047 : Int) < (l.length : Int)) = true := by simp; omega
            have HX : Hid (PrPost c l (.returned (.tuple #[.string ByteArray.empty, .int .i64 3]))) := Lib.hid (PrPost.no (printM_many HNO.out hlong))
            clear hlong
            go_wp2
            go_ret2
            exact ⟨HX.out, HP4.out.f.tr HF5.out⟩
          · have d2 : decide ((2047 : Int) < (l.length : Int)) = false := by simp; omega
            have HLG := Lib.hid hlong
            clear hlong
            obtain ⟨w5, hw5⟩ : ∃ w5, w5 = wr := ⟨_, rfl⟩
            subst hw5
            have H5 := Lib.hid (HP4.out.fr HF5.out)
            have hnm := scr_numbers (w5.alloc (.cells #[.string ⟨#[110, 101, 116]⟩] 9)) R (by have := H5.out.r.lt; rw [World.size_alloc]; omega)
            have hb5 : Blk (w5.alloc (.cells #[.string ⟨#[110, 101, 116]⟩] 9)) w5.heap.size #[.string ⟨#[110, 101, 116]⟩] 9 := Blk.new _ _ _
            have HB5 := Lib.hid hb5
            clear hb5
            go_wp2_with fail
            refine hnm.mono ?_
            rintro e w6 ⟨PB, rfl, hPB, f6⟩
            have H6 : Hid (WdAt w5 R PB c 0 ⟨some ⟨w5.heap.size, 0, none⟩, 1, 1⟩ w6) := Lib.hid ⟨((Fr.refl [] w5).alloc _).tr f6, hPB, by
              have h1 := own_fr (ownsRow_blk (B := w5.heap.size) HB5.out (Nat.le_refl _) (by unfold maxLen; simp)) f6
              simpa [sv] using h1⟩
            obtain ⟨W0, hW0⟩ : ∃ W0, w5.heap.size = W0 := ⟨_, rfl⟩
            have H6 : Hid (WdAt w5 R PB c 0 ⟨some ⟨W0, 0, none⟩, 1, 1⟩ w6) := Lib.hid (by rw [← hW0]; exact H6.out)
            rw [hW0]
            clear hnm hPB f6 hW0 HB5
            go_wp2
            go_loopw [13, 53] (fun wv i wr => ∃ (q : Nat) (sr : Sl), wv = .slice sr.A sr.n sr.c ∧ i = .int .i64 (q : Int) ∧ q ≤ 17 ∧ WdAt w5 R PB c q sr wr) (fun _ i _ => 17 - (intOf i).toNat)
            case atStart => exact ⟨0, _, rfl, rfl, by omega, H6.out⟩
            case round =>
              obtain ⟨q, sr, rfl, rfl, hq, hp⟩ := hrel
              have HP := Lib.hid hp
              by_cases hlt : q < 17
              · have d1 : (q : Int) < 17 := by omega
                obtain ⟨x, hx⟩ : ∃ x, c[q]? = some x := ⟨_, List.getElem?_eq_getElem (by rw [HE.out.2.1]; exact hlt)⟩
                have c0 := hp.p.cell q (numPs_get R q hlt)
                have c1 := (H5.out.r.fr hp.f (by simp)).cell q (show (intsV c)[q]? = some (.int .i64 x) by simp [intsV, hx])
                have hxi : In64 x := HE.out.2.2.1 x (List.mem_of_getElem? hx)
                have hEr : Env wr := HE.out.1.fr0 (H5.out.f.tr hp.f)
                have hit := Tryd.strconv_Itoa x hxi.1 hxi.2 wr hEr.here
                have HX := Lib.hid hx
                have wq : IntKind.i64.wrap ((q : Int) + 1) = (q : Int) + 1 := IntWalk.i64_in _ (by omega)
                clear hp hx hxi hEr
                go_wp2_with fail
                refine hit.mono ?_
                rintro e w7 ⟨rfl, kk, os, hw7⟩
                have f7 : Fr [] wr w7 := by rw [hw7]; exact Fr.grown0 wr kk os
                have HF := Lib.hid (And.intro (HP.out.f.tr f7) (And.intro (own_fr HP.out.row f7) (HP.out.p.fr f7 (by simp))))
                have hbw : w5.heap.size ≤ w7.heap.size := HF.out.1.size
                clear hit f7 hw7 c0 c1
                go_wp2_with (at_builtin; refine wpList_append_src rfl _ _ 60 rfl (w5.heap.size) 9 i0 (.string ByteArray.empty) 1 16 hun hi0 hz0 hz1 hz2 rfl (by decide) _ _ _ rfl (HF.out.2.1.alloc _) _ 1 [.string ⟨(Lib.itoa x).toArray⟩] rfl Src.one rfl (by intro u hu; simp at hu; subst hu; rfl) (by unfold maxLen; omega) (by omega) (by first | (simp; done) | (simp; omega)) ?_)
                intro v' w8 hown8 hgrow
                obtain ⟨sn, rfl⟩ := own_sl' hown8
                have HN : Hid (WdAt w5 R PB c (q + 1) sn w8) := Lib.hid (by
                  have fg : Fr [] w5 w8 := (HF.out.1.alloc (.cells #[.string ⟨(Lib.itoa x).toArray⟩] 9)).grown hgrow (fun k hk => .inr (HF.out.2.1.lt k hk).1)
                  have fr8 : Fr sr.blk (w7.alloc (.cells #[.string ⟨(Lib.itoa x).toArray⟩] 9)) w8 := Fr.grownL hgrow
                  have hb8 := HF.out.2.2.alloc (.cells #[.string ⟨(Lib.itoa x).toArray⟩] 9)
                  refine ⟨fg, hb8.fr fr8 (hb8.off (HF.out.2.1.alloc (.cells #[.string ⟨(Lib.itoa x).toArray⟩] 9)) (by decide)), ?_⟩
                  obtain ⟨hq2, hx2⟩ := List.getElem?_eq_some_iff.1 HX.out
                  rw [List.take_succ_eq_append_getElem hq2, hx2, List.map_append, ← List.cons_append, List.map_append]
                  simpa [sv] using hown8)
                clear hown8 hgrow
                go_wp2
                go_roundw
                case rel => exact ⟨q + 1, sn, rfl, by go_num, by omega, HN.out⟩
                case measure => simp [intOf]; omega
              · have hqe : q = 17 := by omega
                subst hqe
                have hrow7 := hp.row
                rw [List.take_of_length_le (by rw [HE.out.2.1]; exact Nat.le_refl _)] at hrow7
                obtain ⟨b, hA, hcc⟩ := own_at hrow7 (by omega)
                have hn7 : sr.n = 18 := own_n hrow7
                have hcap : 18 ≤ sr.c := by
                  obtain ⟨A', c', hv, hcap⟩ := own_cap hrow7
                  simp only [Sl.v, Value.slice.injEq] at hv
                  obtain ⟨_, _, h9⟩ := hv
                  omega
                obtain ⟨A, nn, cc⟩ := sr
                simp only at hA hn7 hcap
                subst hA hn7
                obtain ⟨w7, hw7⟩ : ∃ w7, w7 = wr := ⟨_, rfl⟩
                subst hw7
                have F7 := Lib.hid (H5.out.f.tr hp.f)
                have HF57 := Lib.hid hp.f
                have fb : Fr [] w7 (w7.alloc (.cells #[.pointer none, .slice none 0 0] 90)) := (Fr.refl [] w7).alloc _
                have hbw : b < w7.heap.size := by
                  have := hcc 0 (sv [110, 101, 116]) (by simp)
                  exact World.block_lt_of_cell? _ _ this
                have hlen : ([110, 101, 116] :: c.map Lib.itoa).length = 18 := by simp [HE.out.2.1]
                have hbytes : (([110, 101, 116] :: c.map Lib.itoa).map fun x => (⟨x.toArray⟩ : ByteArray)).map ByteArray.bytes = [110, 101, 116] :: c.map Lib.itoa := by rw [List.map_map]; exact List.map_id _
                have hr := scr_row (w7.alloc (.cells #[.pointer none, .slice none 0 0] 90)) b 0 cc (([110, 101, 116] :: c.map Lib.itoa).map fun x => ⟨x.toArray⟩) (fun j x hj => by
                  rw [List.getElem?_map] at hj
                  obtain ⟨y, hy, rfl⟩ := Option.map_eq_some_iff.1 hj
                  have := hcc j (sv y) (by rw [List.getElem?_map, hy]; rfl)
                  rw [Nat.zero_add]
                  exact fb.cell this (by simp)) (by rw [World.size_alloc]; omega) (by rw [List.length_map]; omega) (by rw [List.length_map]; omega) (by rw [hbytes]; have := headM_len c HE.out.2.1 HE.out.2.2.1; omega)
                rw [hbytes, List.length_map, hlen] at hr
                have hr2 : Calls Tryd.prog 30 #[.slice (some ⟨b, 0, none⟩) 18 cc] (w7.alloc (.cells #[.pointer none, .slice none 0 0] 90)) fun e w' => e = .returned (.string ⟨(headM c).toArray⟩) ∧ Fr [] (w7.alloc (.cells #[.pointer none, .slice none 0 0] 90)) w' := hr
                have HB := Lib.hid (Lib.fresh_isBuilder 90 5 w7)
                have HFB := Lib.hid fb
                have hhl : (headM c).length ≤ 1001 := by unfold headM; have := headM_len c HE.out.2.1 HE.out.2.2.1; rw [List.length_append]; simp; omega
                obtain ⟨hm, hhm⟩ : ∃ hm, headM c = hm := ⟨_, rfl⟩
                rw [hhm] at hr2 hhl
                have HHM := Lib.hid hhm
                clear hp HP hrow7 hcc hcap fb hbw hlen hbytes hr hhm
                go_wp2_with fail
                refine hr2.mono ?_
                rintro e w8 ⟨rfl, f8⟩
                have H8 := Lib.hid (And.intro (isBuilder_fr HB.out f8) (HFB.out.tr f8))
                clear hr2 f8
                go_wp2_with fail
                refine (bld_WriteString w7.heap.size w7.heap.size _ _ _ H8.out.1 (by show ([] : List Value).length + hm.length ≤ _; simp; omega) H8.out.2.size).mono ?_
                rintro e w9 ⟨rfl, hb9, hbel⟩
                have H9 : Hid (Lib.IsBuilder 90 5 w7.heap.size w7.heap.size (Lib.byteCells (accM c l 0)) w9 ∧ Fr [] w7 w9) := Lib.hid ⟨.inr (by rw [accM_zero, HHM.out]; exact hb9), H8.out.2.belowT hbel⟩
                have HAL : Hid ((accM c l 0).length ≤ 1000100000) := Lib.hid (by rw [accM_zero, HHM.out]; omega)
                clear hb9 hbel hhl
                go_wp2
                go_loopw [70] (fun i wr => ∃ q : Nat, i = .int .i64 (q : Int) ∧ q ≤ l.length ∧ Lib.IsBuilder 90 5 w7.heap.size w7.heap.size (Lib.byteCells (accM c l q)) wr ∧ Fr [] w7 wr ∧ (accM c l q).length ≤ 1000100000) (fun i _ => l.length - (intOf i).toNat)
                case atStart => exact ⟨0, rfl, by omega, H9.out.1, H9.out.2, HAL.out⟩
                case round =>
                  obtain ⟨q, rfl, hq, hbb, hf, hal⟩ := hrel
                  have HK := Lib.hid (And.intro hbb (And.intro hf hal))
                  have F4 : Hid (Fr [] w4 wr) := Lib.hid ((HF5.out.tr HF57.out).tr hf)
                  have hcl : (Lib.byteCells (accM c l q)).length = (accM c l q).length := byteCells_len _
                  by_cases hlt : q < l.length
                  · have d1 : (q : Int) < (l.length : Int) := by omega
                    obtain ⟨ev, hev⟩ : ∃ ev, l[q]? = some ev := ⟨_, List.getElem?_eq_getElem hlt⟩
                    obtain ⟨eb, sd, hA, hbt, g0, g1, g2, g3, g4, g5, g6, g7⟩ := ERow.get (ERow.fr F4.out HRW.out) hev
                    simp only at hA
                    subst hA
                    obtain ⟨hbl, hok⟩ := HE.out.2.2.2.2.2 ev (List.mem_of_getElem? hev)
                    obtain ⟨sh, hfd⟩ : ∃ sh, findD ev.d = some sh := by
                      cases hfd : findD ev.d with
                      | some sh => exact ⟨sh, rfl⟩
                      | none =>
                        have := HNO.out
                        unfold anyNo at this
                        rw [List.any_eq_false] at this
                        have := this ev (List.mem_of_getElem? hev)
                        rw [hfd] at this
                        simp at this
                    have fal := (Fr.refl [] wr).alloc (.cells (ev.arr sd) 63)
                    have hlk := ((HP4.out.m.fr0 F4.out).fr0 fal).look ev.d false
                    rw [hfd] at hlk
                    simp only [Option.map_some, Option.getD_some, Bool.false_eq_true, if_false, shC] at hlk
                    obtain ⟨sw, hsw, hvw⟩ := sv_ex sh.2.1
                    obtain ⟨sx, hsx, hvx⟩ := sv_ex sh.2.2
                    rw [hvw, hvx] at hlk
                    have hmem := (findD_some hfd).1
                    have HQ := Lib.hid (And.intro hev (And.intro hfd hmem))
                    have hsd := scr_said (wr.alloc (.cells (ev.arr sd) 63)) N ev sd sh sw sx (HE.out.1.fr0 ((HP4.out.f.tr F4.out).tr fal)) (hbt.fr fal) (by have := HE.out.2.2.2.2.1; have := (HP4.out.f.tr F4.out).size; rw [World.size_alloc]; omega) hbl hok hmem hsw hsx
                    have hll : (lineE sh ev).length ≤ 1000000001 := by unfold lineE; have := (wordsE_len hmem ev hbl hok).1; rw [List.length_append]; simp; omega
                    have hbl2 := Tryd.Builder_Len w7.heap.size w7.heap.size _ (wr.alloc (.cells (ev.arr sd) 63)) (isBuilder_fr hbb fal)
                    rw [hcl] at hbl2
                    have HFA := Lib.hid fal
                    have wq : IntKind.i64.wrap ((q : Int) + 1) = (q : Int) + 1 := IntWalk.i64_in _ (by omega)
                    obtain ⟨le, hle⟩ : ∃ le, lineE sh ev = le := ⟨_, rfl⟩
                    obtain ⟨na, hna⟩ : ∃ na, (accM c l q).length = na := ⟨_, rfl⟩
                    rw [hna] at hbl2
                    rw [hle] at hsd hll
                    have HLE := Lib.hid (And.intro hle hna)
                    clear hbb hf hal hbt hev hbl hok hfd hsw hvw hsx hvx hmem fal hcl hle
                    by_cases hlong : 65536 < na
                    · have d3 : decide ((65536 : Int) < (na : Int)) = true := by simp; omega
                      have HX : Hid (PrPost c l (.returned (.tuple #[.string ByteArray.empty, .int .i64 3]))) := Lib.hid (PrPost.no (printM_long HNO.out HLG.out (by have := accM_le c l q; omega)))
                      clear hlong hna
                      go_wp2_with fail
                      refine hbl2.mono ?_
                      rintro e w10 ⟨rfl, rfl⟩
                      clear hbl2 hsd
                      go_wp2
                      go_ret2
                      exact ⟨HX.out, (HP4.out.f.tr F4.out).tr HFA.out⟩
                    · have d3 : decide ((65536 : Int) < (na : Int)) = false := by simp; omega
                      have HNA := Lib.hid hlong
                      clear hlong hna
                      go_wp2_with fail
                      refine hbl2.mono ?_
                      rintro e w10 ⟨rfl, rfl⟩
                      clear hbl2
                      go_wp2_with fail
                      refine hsd.mono ?_
                      rintro e w11 ⟨rfl, f11⟩
                      have H11 := Lib.hid (And.intro (isBuilder_fr HK.out.1 (HFA.out.tr f11)) (HK.out.2.1.tr (HFA.out.tr f11)))
                      clear hsd f11 hlk
                      go_wp2_with fail
                      refine (bld_WriteString w7.heap.size w7.heap.size _ _ _ H11.out.1 (by show (Lib.byteCells (accM c l q)).length + le.length ≤ _; rw [byteCells_len]; have := HLE.out.2; have := HNA.out; omega) H11.out.2.size).mono ?_
                      rintro e w12 ⟨rfl, hb12, hbel⟩
                      have HN : Hid (Lib.IsBuilder 90 5 w7.heap.size w7.heap.size (Lib.byteCells (accM c l (q + 1))) w12 ∧ Fr [] w7 w12 ∧ (accM c l (q + 1)).length ≤ 1000100000) := Lib.hid (by
                        rw [accM_succ HQ.out.1 HQ.out.2.1, HLE.out.1]
                        refine ⟨.inr ?_, H11.out.2.belowT hbel, ?_⟩
                        · rw [← byteCells_app]; exact hb12
                        · rw [List.length_append]; have := HLE.out.2; have := HNA.out; omega)
                      clear hb12 hbel hll
                      go_wp2
                      go_roundw
                      case rel => exact ⟨q + 1, by go_num, by omega, HN.out⟩
                      case measure => simp [intOf]; omega
                  · have hqe : q = l.length := by omega
                    subst hqe
                    rw [accM_all] at hcl hbb hal
                    have hbl2 := Tryd.Builder_Len w7.heap.size w7.heap.size _ wr hbb
                    rw [hcl] at hbl2
                    have hst := Tryd.Builder_String_any w7.heap.size w7.heap.size _ wr hbb hf.size
                    obtain ⟨na, hna⟩ : ∃ na, (textM c l).length = na := ⟨_, rfl⟩
                    rw [hna] at hbl2
                    have HNA := Lib.hid hna
                    clear hbb hf hal hcl hna
                    by_cases hlong : 65536 < na
                    · have d3 : decide ((65536 : Int) < (na : Int)) = true := by simp; omega
                      have HX : Hid (PrPost c l (.returned (.tuple #[.string ByteArray.empty, .int .i64 3]))) := Lib.hid (PrPost.no (printM_long HNO.out HLG.out (by have := HNA.out; omega)))
                      clear hlong hst
                      go_wp2_with fail
                      refine hbl2.mono ?_
                      rintro e w10 ⟨rfl, rfl⟩
                      clear hbl2
                      go_wp2
                      go_ret2
                      exact ⟨HX.out, HP4.out.f.tr F4.out⟩
                    · have d3 : decide ((65536 : Int) < (na : Int)) = false := by simp; omega
                      have HX : Hid (PrPost c l (.returned (.tuple #[.string ⟨(textM c l).toArray⟩, .int .i64 0]))) := Lib.hid (PrPost.ok (printM_ok HNO.out HLG.out (by have := HNA.out; omega)))
                      clear hlong
                      go_wp2_with fail
                      refine hbl2.mono ?_
                      rintro e w10 ⟨rfl, rfl⟩
                      clear hbl2
                      go_wp2_with fail
                      refine hst.mono ?_
                      rintro e w11 ⟨rfl, hbel⟩
                      have H11 := Lib.hid (HK.out.2.1.belowT hbel)
                      clear hst hbel
                      go_wp2
                      go_ret2
                      exact ⟨HX.out, F7.out.tr H11.out⟩
end Go.Proofs.YtodlbajpcbdbaaaDoor
namespace Go.Proofs.YtodlbajpcbdbaaaDoor
open Go.RowKit Go.Shelf
set_option linter.unusedVariables false
set_option linter.unusedSimpArgs false
set_option maxRecDepth 100000

theorem law19_Config (a0 a1 a2 a3 a4 a5 : Int) (w : World) : Calls Tryd.prog 48 #[.agg #[.int .i64 a0, .int .i64 a1, .int .i64 a2, .int .i64 a3, .int .i64 a4, .int .i64 a5]] w fun e w' => e = .returned (.agg #[.int .i64 a0, .int .i64 a1, .int .i64 a2, .int .i64 a3, .int .i64 a4, .int .i64 a5]) ∧ Fr [] w w' := by
  go_enter Tryd.func48, Tryd.ntmps48
  go_wp2
  exact bodyPost_ret (v := .agg #[.int .i64 a0, .int .i64 a1, .int .i64 a2, .int .i64 a3, .int .i64 a4, .int .i64 a5]) (by simp [results, Tryd.results48, go_sem]) rfl ⟨rfl, ((Fr.refl _ _).alloc _).alloc _⟩

theorem law21_Config (a0 a1 a2 : Int) (w : World) : Calls Tryd.prog 49 #[.agg #[.int .i64 a0, .int .i64 a1, .int .i64 a2]] w fun e w' => e = .returned (.agg #[.int .i64 a0, .int .i64 a1, .int .i64 a2]) ∧ Fr [] w w' := by
  go_enter Tryd.func49, Tryd.ntmps49
  go_wp2
  exact bodyPost_ret (v := .agg #[.int .i64 a0, .int .i64 a1, .int .i64 a2]) (by simp [results, Tryd.results49, go_sem]) rfl ⟨rfl, ((Fr.refl _ _).alloc _).alloc _⟩

set_option maxRecDepth 100000 in
set_option maxHeartbeats 4000000 in
theorem law24_Config (a0 a1 a2 a3 a4 a5 a6 a7 a8 a9 a10 a11 a12 : Int) (w : World) : Calls Tryd.prog 25 #[.agg #[.int .i64 a0, .int .i64 a1, .int .i64 a2, .int .i64 a3, .int .i64 a4, .int .i64 a5, .int .i64 a6, .int .i64 a7, .int .i64 a8, .int .i64 a9, .int .i64 a10, .int .i64 a11, .int .i64 a12]] w fun e w' => e = .returned (.agg #[.int .i64 a0, .int .i64 a1, .int .i64 a2, .int .i64 a3, .int .i64 a4, .int .i64 a5, .int .i64 a6, .int .i64 a7, .int .i64 a8, .int .i64 a9, .int .i64 a10, .int .i64 a11, .int .i64 a12]) ∧ Fr [] w w' := by
  have hb0 : Blk ((w.alloc (.cells #[.int .i64 a0, .int .i64 a1, .int .i64 a2, .int .i64 a3, .int .i64 a4, .int .i64 a5, .int .i64 a6, .int .i64 a7, .int .i64 a8, .int .i64 a9, .int .i64 a10, .int .i64 a11, .int .i64 a12] 38)).alloc (.cells #[.int .i64 0, .int .i64 0, .int .i64 0, .int .i64 0, .int .i64 0, .int .i64 0, .int .i64 0, .int .i64 0, .int .i64 0, .int .i64 0, .int .i64 0, .int .i64 0, .int .i64 0] 28)) w.heap.size #[.int .i64 a0, .int .i64 a1, .int .i64 a2, .int .i64 a3, .int .i64 a4, .int .i64 a5, .int .i64 a6, .int .i64 a7, .int .i64 a8, .int .i64 a9, .int .i64 a10, .int .i64 a11, .int .i64 a12] 38 := (Blk.new w _ _).alloc _
  have hb1 : Blk ((w.alloc (.cells #[.int .i64 a0, .int .i64 a1, .int .i64 a2, .int .i64 a3, .int .i64 a4, .int .i64 a5, .int .i64 a6, .int .i64 a7, .int .i64 a8, .int .i64 a9, .int .i64 a10, .int .i64 a11, .int .i64 a12] 38)).alloc (.cells #[.int .i64 0, .int .i64 0, .int .i64 0, .int .i64 0, .int .i64 0, .int .i64 0, .int .i64 0, .int .i64 0, .int .i64 0, .int .i64 0, .int .i64 0, .int .i64 0, .int .i64 0] 28)) (w.heap.size + 1) #[.int .i64 0, .int .i64 0, .int .i64 0, .int .i64 0, .int .i64 0, .int .i64 0, .int .i64 0, .int .i64 0, .int .i64 0, .int .i64 0, .int .i64 0, .int .i64 0, .int .i64 0] 28 := by
    have := Blk.new (w.alloc (.cells #[.int .i64 a0, .int .i64 a1, .int .i64 a2, .int .i64 a3, .int .i64 a4, .int .i64 a5, .int .i64 a6, .int .i64 a7, .int .i64 a8, .int .i64 a9, .int .i64 a10, .int .i64 a11, .int .i64 a12] 38)) #[.int .i64 0, .int .i64 0, .int .i64 0, .int .i64 0, .int .i64 0, .int .i64 0, .int .i64 0, .int .i64 0, .int .i64 0, .int .i64 0, .int .i64 0, .int .i64 0, .int .i64 0] 28
    simpa using this
  have k0 : ∀ wx, Fr [] ((w.alloc (.cells #[.int .i64 a0, .int .i64 a1, .int .i64 a2, .int .i64 a3, .int .i64 a4, .int .i64 a5, .int .i64 a6, .int .i64 a7, .int .i64 a8, .int .i64 a9, .int .i64 a10, .int .i64 a11, .int .i64 a12] 38)).alloc (.cells #[.int .i64 0, .int .i64 0, .int .i64 0, .int .i64 0, .int .i64 0, .int .i64 0, .int .i64 0, .int .i64 0, .int .i64 0, .int .i64 0, .int .i64 0, .int .i64 0, .int .i64 0] 28)) wx → wx.cell? ⟨w.heap.size, 0, none⟩ = some (.int .i64 a0) ∧ wx.cell? ⟨w.heap.size, 1, none⟩ = some (.int .i64 a1) ∧ wx.cell? ⟨w.heap.size, 2, none⟩ = some (.int .i64 a2) ∧ wx.cell? ⟨w.heap.size, 3, none⟩ = some (.int .i64 a3) ∧ wx.cell? ⟨w.heap.size, 4, none⟩ = some (.int .i64 a4) ∧ wx.cell? ⟨w.heap.size, 5, none⟩ = some (.int .i64 a5) ∧ wx.cell? ⟨w.heap.size, 6, none⟩ = some (.int .i64 a6) ∧ wx.cell? ⟨w.heap.size, 7, none⟩ = some (.int .i64 a7) ∧ wx.cell? ⟨w.heap.size, 8, none⟩ = some (.int .i64 a8) ∧ wx.cell? ⟨w.heap.size, 9, none⟩ = some (.int .i64 a9) ∧ wx.cell? ⟨w.heap.size, 10, none⟩ = some (.int .i64 a10) ∧ wx.cell? ⟨w.heap.size, 11, none⟩ = some (.int .i64 a11) ∧ wx.cell? ⟨w.heap.size, 12, none⟩ = some (.int .i64 a12) := fun wx f => by
    have h := hb0.fr f (by simp)
    exact ⟨h.cell 0 rfl, h.cell 1 rfl, h.cell 2 rfl, h.cell 3 rfl, h.cell 4 rfl, h.cell 5 rfl, h.cell 6 rfl, h.cell 7 rfl, h.cell 8 rfl, h.cell 9 rfl, h.cell 10 rfl, h.cell 11 rfl, h.cell 12 rfl⟩
  have HB := Lib.hid (And.intro hb1 ((((Fr.refl [] w).alloc (.cells #[.int .i64 a0, .int .i64 a1, .int .i64 a2, .int .i64 a3, .int .i64 a4, .int .i64 a5, .int .i64 a6, .int .i64 a7, .int .i64 a8, .int .i64 a9, .int .i64 a10, .int .i64 a11, .int .i64 a12] 38)).alloc (.cells #[.int .i64 0, .int .i64 0, .int .i64 0, .int .i64 0, .int .i64 0, .int .i64 0, .int .i64 0, .int .i64 0, .int .i64 0, .int .i64 0, .int .i64 0, .int .i64 0, .int .i64 0] 28))))
  clear hb0 hb1
  go_enter Tryd.func25, Tryd.ntmps25
  go_wp2
  refine wp_region_keepsT [] [Is (.pointer (some ⟨w.heap.size, 0, none⟩)), Is (.agg #[.int .i64 a0, .int .i64 a1, .int .i64 a2, .int .i64 a3, .int .i64 a4, .int .i64 a5]), Is (.agg #[.int .i64 a0, .int .i64 a1, .int .i64 a2, .int .i64 a3, .int .i64 a4, .int .i64 a5]), Is (.pointer (some ⟨w.heap.size, 6, none⟩)), Is (.agg #[.int .i64 a6, .int .i64 a7, .int .i64 a8]), Is (.agg #[.int .i64 a6, .int .i64 a7, .int .i64 a8]), Is (.pointer (some ⟨w.heap.size, 9, none⟩)), Is (.int .i64 a9), Is (.pointer (some ⟨w.heap.size, 10, none⟩)), Is (.int .i64 a10), Is (.pointer (some ⟨w.heap.size, 11, none⟩)), Is (.int .i64 a11), Is (.pointer (some ⟨w.heap.size, 12, none⟩)), Is (.int .i64 a12), Is (.agg #[.int .i64 a0, .int .i64 a1, .int .i64 a2, .int .i64 a3, .int .i64 a4, .int .i64 a5, .int .i64 a6, .int .i64 a7, .int .i64 a8, .int .i64 a9, .int .i64 a10, .int .i64 a11, .int .i64 a12])] 15 (by kernel_rfl) (by kernel_rfl) (by kernel_rfl) (by kernel_rfl) (by kernel_rfl) (by kernel_rfl) ?hV ?hS ?hD
  case hV =>
    repeat (first | exact trivial | exact Is.keeps _ | exact Any.keeps | exact IsSl.keeps _ _ _ | refine And.intro ?_ ?_)
  case hS =>
    (repeat' (first | exact trivial | refine And.intro ?_ ?_))
    all_goals (
      intro ac wx hf hs hp K hK
      simp only [zA, Region.binds, Nat.reduceAdd] at hp
      have e1 := hs 1 (by kernel_rfl)
      simp only [Array.getD_eq_getD_getElem?, List.getElem?_toArray, List.getElem?_cons_succ, List.getElem?_cons_zero, Option.getD_some] at e1
      clear hs
      obtain ⟨cx0, cx1, cx2, cx3, cx4, cx5, cx6, cx7, cx8, cx9, cx10, cx11, cx12⟩ := k0 wx hf
      clear hf
      (try simp only [hp])
      go_simp
      try dsimp only
      first | (refine hK.out _ _ ?_ ?_; (first | exact Fr.refl _ _ | exact (Fr.refl _ _).alloc _); (simp only [nth]; (first | (unfold Is; rfl) | (unfold Any; exact trivial) | exact IsSl.new _ _ _ _))) | (go_at_call 48; refine (law19_Config a0 a1 a2 a3 a4 a5 _).mono ?_; rintro e w' ⟨rfl, f⟩; refine hK.out _ _ f ?_; simp only [nth]; (unfold Is; rfl)) | (go_at_call 49; refine (law21_Config a6 a7 a8 _).mono ?_; rintro e w' ⟨rfl, f⟩; refine hK.out _ _ f ?_; simp only [nth]; (unfold Is; rfl)))
  case hD =>
    intro xv wx hf hp
    simp only [List.take_succ_cons, List.take_zero, List.drop_succ_cons, List.drop_zero, fill, List.setIfInBounds_toArray, List.set_cons_zero, List.set_cons_succ, Nat.reduceAdd, Act.put]
    simp only [List.range_eq_range', List.range'_succ, List.range'_zero, Nat.zero_add, Nat.add_zero, Nat.reduceAdd, holds, nth, Is, Any, true_and, and_true] at hp
    obtain ⟨-, -, -, -, -, -, -, -, -, -, -, -, -, -, pz⟩ := hp
    simp only [pz]
    have H1 := Lib.hid (And.intro (HB.out.1.fr hf (by simp)) (HB.out.2.tr hf))
    clear pz hf
    obtain ⟨CS, hCS⟩ : ∃ CS : Array Value, #[.int .i64 a0, .int .i64 a1, .int .i64 a2, .int .i64 a3, .int .i64 a4, .int .i64 a5, .int .i64 a6, .int .i64 a7, .int .i64 a8, .int .i64 a9, .int .i64 a10, .int .i64 a11, .int .i64 a12] = CS := ⟨_, rfl⟩
    rw [hCS]
    have HC : Hid (CS.size = 13 ∧ CS.all (·.oneCell') = true ∧ CS = #[.int .i64 a0, .int .i64 a1, .int .i64 a2, .int .i64 a3, .int .i64 a4, .int .i64 a5, .int .i64 a6, .int .i64 a7, .int .i64 a8, .int .i64 a9, .int .i64 a10, .int .i64 a11, .int .i64 a12]) := Lib.hid (by rw [← hCS]; exact ⟨rfl, by simp [Value.oneCell'], rfl⟩)
    clear hCS
    go_wp2_with (refine wpList_store_row rfl 28 (.tmp 2) (.tmp 17) rfl (w.heap.size + 1) CS rfl rfl 28 #[.int .i64 0, .int .i64 0, .int .i64 0, .int .i64 0, .int .i64 0, .int .i64 0, .int .i64 0, .int .i64 0, .int .i64 0, .int .i64 0, .int .i64 0, .int .i64 0, .int .i64 0] H1.out.1 (by rw [HC.out.1]; kernel_rfl) (by rw [HC.out.1]; rfl) HC.out.2.1 ?_)
    refine bodyPost_ret (v := .agg CS) (results_cell_row Tryd.results25 _ _ (w.heap.size + 1) 28 _ (0, 0) _ rfl H1.out.1.setRow Tryd.underlying28 rfl (by rw [HC.out.1]; kernel_rfl)) rfl ⟨by rw [HC.out.2.2], ?_⟩
    exact H1.out.2.setRow _ (.inr (by omega))

set_option maxRecDepth 100000 in
set_option maxHeartbeats 4000000 in
theorem law25_Config (a0 a1 a2 a3 a4 a5 a6 a7 a8 a9 a10 a11 a12 a13 a14 a15 a16 : Int) (w : World) : Calls Tryd.prog 10 #[.agg #[.int .i64 a0, .int .i64 a1, .int .i64 a2, .int .i64 a3, .int .i64 a4, .int .i64 a5, .int .i64 a6, .int .i64 a7, .int .i64 a8, .int .i64 a9, .int .i64 a10, .int .i64 a11, .int .i64 a12, .int .i64 a13, .int .i64 a14, .int .i64 a15, .int .i64 a16]] w fun e w' => e = .returned (.agg #[.int .i64 a0, .int .i64 a1, .int .i64 a2, .int .i64 a3, .int .i64 a4, .int .i64 a5, .int .i64 a6, .int .i64 a7, .int .i64 a8, .int .i64 a9, .int .i64 a10, .int .i64 a11, .int .i64 a12, .int .i64 a13, .int .i64 a14, .int .i64 a15, .int .i64 a16]) ∧ Fr [] w w' := by
  have hb0 : Blk ((w.alloc (.cells #[.int .i64 a0, .int .i64 a1, .int .i64 a2, .int .i64 a3, .int .i64 a4, .int .i64 a5, .int .i64 a6, .int .i64 a7, .int .i64 a8, .int .i64 a9, .int .i64 a10, .int .i64 a11, .int .i64 a12, .int .i64 a13, .int .i64 a14, .int .i64 a15, .int .i64 a16] 40)).alloc (.cells #[.int .i64 0, .int .i64 0, .int .i64 0, .int .i64 0, .int .i64 0, .int .i64 0, .int .i64 0, .int .i64 0, .int .i64 0, .int .i64 0, .int .i64 0, .int .i64 0, .int .i64 0, .int .i64 0, .int .i64 0, .int .i64 0, .int .i64 0] 30)) w.heap.size #[.int .i64 a0, .int .i64 a1, .int .i64 a2, .int .i64 a3, .int .i64 a4, .int .i64 a5, .int .i64 a6, .int .i64 a7, .int .i64 a8, .int .i64 a9, .int .i64 a10, .int .i64 a11, .int .i64 a12, .int .i64 a13, .int .i64 a14, .int .i64 a15, .int .i64 a16] 40 := (Blk.new w _ _).alloc _
  have hb1 : Blk ((w.alloc (.cells #[.int .i64 a0, .int .i64 a1, .int .i64 a2, .int .i64 a3, .int .i64 a4, .int .i64 a5, .int .i64 a6, .int .i64 a7, .int .i64 a8, .int .i64 a9, .int .i64 a10, .int .i64 a11, .int .i64 a12, .int .i64 a13, .int .i64 a14, .int .i64 a15, .int .i64 a16] 40)).alloc (.cells #[.int .i64 0, .int .i64 0, .int .i64 0, .int .i64 0, .int .i64 0, .int .i64 0, .int .i64 0, .int .i64 0, .int .i64 0, .int .i64 0, .int .i64 0, .int .i64 0, .int .i64 0, .int .i64 0, .int .i64 0, .int .i64 0, .int .i64 0] 30)) (w.heap.size + 1) #[.int .i64 0, .int .i64 0, .int .i64 0, .int .i64 0, .int .i64 0, .int .i64 0, .int .i64 0, .int .i64 0, .int .i64 0, .int .i64 0, .int .i64 0, .int .i64 0, .int .i64 0, .int .i64 0, .int .i64 0, .int .i64 0, .int .i64 0] 30 := by
    have := Blk.new (w.alloc (.cells #[.int .i64 a0, .int .i64 a1, .int .i64 a2, .int .i64 a3, .int .i64 a4, .int .i64 a5, .int .i64 a6, .int .i64 a7, .int .i64 a8, .int .i64 a9, .int .i64 a10, .int .i64 a11, .int .i64 a12, .int .i64 a13, .int .i64 a14, .int .i64 a15, .int .i64 a16] 40)) #[.int .i64 0, .int .i64 0, .int .i64 0, .int .i64 0, .int .i64 0, .int .i64 0, .int .i64 0, .int .i64 0, .int .i64 0, .int .i64 0, .int .i64 0, .int .i64 0, .int .i64 0, .int .i64 0, .int .i64 0, .int .i64 0, .int .i64 0] 30
    simpa using this
  have k0 : ∀ wx, Fr [] ((w.alloc (.cells #[.int .i64 a0, .int .i64 a1, .int .i64 a2, .int .i64 a3, .int .i64 a4, .int .i64 a5, .int .i64 a6, .int .i64 a7, .int .i64 a8, .int .i64 a9, .int .i64 a10, .int .i64 a11, .int .i64 a12, .int .i64 a13, .int .i64 a14, .int .i64 a15, .int .i64 a16] 40)).alloc (.cells #[.int .i64 0, .int .i64 0, .int .i64 0, .int .i64 0, .int .i64 0, .int .i64 0, .int .i64 0, .int .i64 0, .int .i64 0, .int .i64 0, .int .i64 0, .int .i64 0, .int .i64 0, .int .i64 0, .int .i64 0, .int .i64 0, .int .i64 0] 30)) wx → wx.cell? ⟨w.heap.size, 0, none⟩ = some (.int .i64 a0) ∧ wx.cell? ⟨w.heap.size, 1, none⟩ = some (.int .i64 a1) ∧ wx.cell? ⟨w.heap.size, 2, none⟩ = some (.int .i64 a2) ∧ wx.cell? ⟨w.heap.size, 3, none⟩ = some (.int .i64 a3) ∧ wx.cell? ⟨w.heap.size, 4, none⟩ = some (.int .i64 a4) ∧ wx.cell? ⟨w.heap.size, 5, none⟩ = some (.int .i64 a5) ∧ wx.cell? ⟨w.heap.size, 6, none⟩ = some (.int .i64 a6) ∧ wx.cell? ⟨w.heap.size, 7, none⟩ = some (.int .i64 a7) ∧ wx.cell? ⟨w.heap.size, 8, none⟩ = some (.int .i64 a8) ∧ wx.cell? ⟨w.heap.size, 9, none⟩ = some (.int .i64 a9) ∧ wx.cell? ⟨w.heap.size, 10, none⟩ = some (.int .i64 a10) ∧ wx.cell? ⟨w.heap.size, 11, none⟩ = some (.int .i64 a11) ∧ wx.cell? ⟨w.heap.size, 12, none⟩ = some (.int .i64 a12) ∧ wx.cell? ⟨w.heap.size, 13, none⟩ = some (.int .i64 a13) ∧ wx.cell? ⟨w.heap.size, 14, none⟩ = some (.int .i64 a14) ∧ wx.cell? ⟨w.heap.size, 15, none⟩ = some (.int .i64 a15) ∧ wx.cell? ⟨w.heap.size, 16, none⟩ = some (.int .i64 a16) := fun wx f => by
    have h := hb0.fr f (by simp)
    exact ⟨h.cell 0 rfl, h.cell 1 rfl, h.cell 2 rfl, h.cell 3 rfl, h.cell 4 rfl, h.cell 5 rfl, h.cell 6 rfl, h.cell 7 rfl, h.cell 8 rfl, h.cell 9 rfl, h.cell 10 rfl, h.cell 11 rfl, h.cell 12 rfl, h.cell 13 rfl, h.cell 14 rfl, h.cell 15 rfl, h.cell 16 rfl⟩
  have HB := Lib.hid (And.intro hb1 ((((Fr.refl [] w).alloc (.cells #[.int .i64 a0, .int .i64 a1, .int .i64 a2, .int .i64 a3, .int .i64 a4, .int .i64 a5, .int .i64 a6, .int .i64 a7, .int .i64 a8, .int .i64 a9, .int .i64 a10, .int .i64 a11, .int .i64 a12, .int .i64 a13, .int .i64 a14, .int .i64 a15, .int .i64 a16] 40)).alloc (.cells #[.int .i64 0, .int .i64 0, .int .i64 0, .int .i64 0, .int .i64 0, .int .i64 0, .int .i64 0, .int .i64 0, .int .i64 0, .int .i64 0, .int .i64 0, .int .i64 0, .int .i64 0, .int .i64 0, .int .i64 0, .int .i64 0, .int .i64 0] 30))))
  clear hb0 hb1
  go_enter Tryd.func10, Tryd.ntmps10
  go_wp2
  refine wp_region_keepsT [] [Is (.pointer (some ⟨w.heap.size, 0, none⟩)), Is (.int .i64 a0), Is (.pointer (some ⟨w.heap.size, 1, none⟩)), Is (.int .i64 a1), Is (.pointer (some ⟨w.heap.size, 2, none⟩)), Is (.int .i64 a2), Is (.pointer (some ⟨w.heap.size, 3, none⟩)), Is (.int .i64 a3), Is (.pointer (some ⟨w.heap.size, 4, none⟩)), Is (.agg #[.int .i64 a4, .int .i64 a5, .int .i64 a6, .int .i64 a7, .int .i64 a8, .int .i64 a9, .int .i64 a10, .int .i64 a11, .int .i64 a12, .int .i64 a13, .int .i64 a14, .int .i64 a15, .int .i64 a16]), Is (.agg #[.int .i64 a4, .int .i64 a5, .int .i64 a6, .int .i64 a7, .int .i64 a8, .int .i64 a9, .int .i64 a10, .int .i64 a11, .int .i64 a12, .int .i64 a13, .int .i64 a14, .int .i64 a15, .int .i64 a16]), Is (.agg #[.int .i64 a0, .int .i64 a1, .int .i64 a2, .int .i64 a3, .int .i64 a4, .int .i64 a5, .int .i64 a6, .int .i64 a7, .int .i64 a8, .int .i64 a9, .int .i64 a10, .int .i64 a11, .int .i64 a12, .int .i64 a13, .int .i64 a14, .int .i64 a15, .int .i64 a16])] 12 (by kernel_rfl) (by kernel_rfl) (by kernel_rfl) (by kernel_rfl) (by kernel_rfl) (by kernel_rfl) ?hV ?hS ?hD
  case hV =>
    repeat (first | exact trivial | exact Is.keeps _ | exact Any.keeps | exact IsSl.keeps _ _ _ | refine And.intro ?_ ?_)
  case hS =>
    (repeat' (first | exact trivial | refine And.intro ?_ ?_))
    all_goals (
      intro ac wx hf hs hp K hK
      simp only [zA, Region.binds, Nat.reduceAdd] at hp
      have e1 := hs 1 (by kernel_rfl)
      simp only [Array.getD_eq_getD_getElem?, List.getElem?_toArray, List.getElem?_cons_succ, List.getElem?_cons_zero, Option.getD_some] at e1
      clear hs
      obtain ⟨cx0, cx1, cx2, cx3, cx4, cx5, cx6, cx7, cx8, cx9, cx10, cx11, cx12, cx13, cx14, cx15, cx16⟩ := k0 wx hf
      clear hf
      (try simp only [hp])
      go_simp
      try dsimp only
      first | (refine hK.out _ _ ?_ ?_; (first | exact Fr.refl _ _ | exact (Fr.refl _ _).alloc _); (simp only [nth]; (first | (unfold Is; rfl) | (unfold Any; exact trivial) | exact IsSl.new _ _ _ _))) | (go_at_call 25; refine (law24_Config a4 a5 a6 a7 a8 a9 a10 a11 a12 a13 a14 a15 a16 _).mono ?_; rintro e w' ⟨rfl, f⟩; refine hK.out _ _ f ?_; simp only [nth]; (unfold Is; rfl)))
  case hD =>
    intro xv wx hf hp
    simp only [List.take_succ_cons, List.take_zero, List.drop_succ_cons, List.drop_zero, fill, List.setIfInBounds_toArray, List.set_cons_zero, List.set_cons_succ, Nat.reduceAdd, Act.put]
    simp only [List.range_eq_range', List.range'_succ, List.range'_zero, Nat.zero_add, Nat.add_zero, Nat.reduceAdd, holds, nth, Is, Any, true_and, and_true] at hp
    obtain ⟨-, -, -, -, -, -, -, -, -, -, -, pz⟩ := hp
    simp only [pz]
    have H1 := Lib.hid (And.intro (HB.out.1.fr hf (by simp)) (HB.out.2.tr hf))
    clear pz hf
    obtain ⟨CS, hCS⟩ : ∃ CS : Array Value, #[.int .i64 a0, .int .i64 a1, .int .i64 a2, .int .i64 a3, .int .i64 a4, .int .i64 a5, .int .i64 a6, .int .i64 a7, .int .i64 a8, .int .i64 a9, .int .i64 a10, .int .i64 a11, .int .i64 a12, .int .i64 a13, .int .i64 a14, .int .i64 a15, .int .i64 a16] = CS := ⟨_, rfl⟩
    rw [hCS]
    have HC : Hid (CS.size = 17 ∧ CS.all (·.oneCell') = true ∧ CS = #[.int .i64 a0, .int .i64 a1, .int .i64 a2, .int .i64 a3, .int .i64 a4, .int .i64 a5, .int .i64 a6, .int .i64 a7, .int .i64 a8, .int .i64 a9, .int .i64 a10, .int .i64 a11, .int .i64 a12, .int .i64 a13, .int .i64 a14, .int .i64 a15, .int .i64 a16]) := Lib.hid (by rw [← hCS]; exact ⟨rfl, by simp [Value.oneCell'], rfl⟩)
    clear hCS
    go_wp2_with (refine wpList_store_row rfl 30 (.tmp 2) (.tmp 14) rfl (w.heap.size + 1) CS rfl rfl 30 #[.int .i64 0, .int .i64 0, .int .i64 0, .int .i64 0, .int .i64 0, .int .i64 0, .int .i64 0, .int .i64 0, .int .i64 0, .int .i64 0, .int .i64 0, .int .i64 0, .int .i64 0, .int .i64 0, .int .i64 0, .int .i64 0, .int .i64 0] H1.out.1 (by rw [HC.out.1]; kernel_rfl) (by rw [HC.out.1]; rfl) HC.out.2.1 ?_)
    refine bodyPost_ret (v := .agg CS) (results_cell_row Tryd.results10 _ _ (w.heap.size + 1) 30 _ (0, 0) _ rfl H1.out.1.setRow Tryd.underlying30 rfl (by rw [HC.out.1]; kernel_rfl)) rfl ⟨by rw [HC.out.2.2], ?_⟩
    exact H1.out.2.setRow _ (.inr (by omega))

theorem law25_ConfigL (c : List Int) (hc : c.length = 17) (w : World) : Calls Tryd.prog 10 #[.agg (intsV c)] w fun e w' => e = .returned (.agg (intsV c)) ∧ Fr [] w w' := by
  match c, hc with
  | [a0, a1, a2, a3, a4, a5, a6, a7, a8, a9, a10, a11, a12, a13, a14, a15, a16], _ => exact law25_Config a0 a1 a2 a3 a4 a5 a6 a7 a8 a9 a10 a11 a12 a13 a14 a15 a16 w
end Go.Proofs.YtodlbajpcbdbaaaDoor
namespace Go.Proofs.YtodlbajpcbdbaaaDoor
open Go.RowKit Go.Shelf
set_option linter.unusedVariables false
set_option linter.unusedSimpArgs false
set_option maxRecDepth 100000

theorem law19_Made3 (w : World) : Calls Tryd.prog 57 #[.int .i64 3] w fun e w' => e = .returned (.agg #[.int .i64 4, .int .i64 2, .int .i64 2, .int .i64 2, .int .i64 2, .int .i64 2]) ∧ Fr [] w w' := by
  have a1 : bits .and .i64 3 65535 = 3 := by decide +kernel
  have a2 : bits .and .i64 3 7 = 3 := by decide +kernel
  have a3 : bits .and .i64 0 3 = 0 := by decide +kernel
  go_enter Tryd.func57, Tryd.ntmps57
  go_wp2
  exact bodyPost_ret (v := .agg #[.int .i64 4, .int .i64 2, .int .i64 2, .int .i64 2, .int .i64 2, .int .i64 2]) (by simp [results, Tryd.results57, go_sem]) rfl ⟨rfl, (Fr.refl _ _).alloc _⟩
set_option maxHeartbeats 4000000 in
theorem law24_Made3 (w : World) : Calls Tryd.prog 39 #[.int .i64 3] w fun e w' => e = .returned (.agg #[.int .i64 4, .int .i64 2, .int .i64 2, .int .i64 2, .int .i64 2, .int .i64 2, .int .i64 1, .int .i64 1, .int .i64 0, .int .i64 1, .int .i64 1, .int .i64 4, .int .i64 1]) ∧ Fr [] w w' := by
  have a1 : bits .and .i64 3 16777215 = 3 := by decide +kernel
  have a2 : bits .and .i64 3 3 = 3 := by decide +kernel
  have a3 : bits .and .i64 0 3 = 0 := by decide +kernel
  have a4 : bits .and .i64 0 7 = 0 := by decide +kernel
  have hb0 : Blk (w.alloc (.cells #[.int .i64 0, .int .i64 0, .int .i64 0, .int .i64 0, .int .i64 0, .int .i64 0, .int .i64 0, .int .i64 0, .int .i64 0, .int .i64 0, .int .i64 0, .int .i64 0, .int .i64 0] 38)) w.heap.size #[.int .i64 0, .int .i64 0, .int .i64 0, .int .i64 0, .int .i64 0, .int .i64 0, .int .i64 0, .int .i64 0, .int .i64 0, .int .i64 0, .int .i64 0, .int .i64 0, .int .i64 0] 38 := Blk.new _ _ _
  have HB := Lib.hid hb0
  clear hb0
  go_enter Tryd.func39, Tryd.ntmps39
  go_wp2_with fail
  refine (law19_Made3 _).mono ?_
  rintro e w1 ⟨rfl, f1⟩
  have H1 := Lib.hid (And.intro (HB.out.fr f1 (by simp)) (((Fr.refl [] w).alloc (.cells #[.int .i64 0, .int .i64 0, .int .i64 0, .int .i64 0, .int .i64 0, .int .i64 0, .int .i64 0, .int .i64 0, .int .i64 0, .int .i64 0, .int .i64 0, .int .i64 0, .int .i64 0] 38)).tr f1))
  have c0 := H1.out.1.cell 0 rfl
  have z0 := H1.out.1.free 0
  have c1 := H1.out.1.cell 1 rfl
  have z1 := H1.out.1.free 1
  have c2 := H1.out.1.cell 2 rfl
  have z2 := H1.out.1.free 2
  have c3 := H1.out.1.cell 3 rfl
  have z3 := H1.out.1.free 3
  have c4 := H1.out.1.cell 4 rfl
  have z4 := H1.out.1.free 4
  have c5 := H1.out.1.cell 5 rfl
  have z5 := H1.out.1.free 5
  have c6 := H1.out.1.cell 6 rfl
  have z6 := H1.out.1.free 6
  have c7 := H1.out.1.cell 7 rfl
  have z7 := H1.out.1.free 7
  have c8 := H1.out.1.cell 8 rfl
  have z8 := H1.out.1.free 8
  have c9 := H1.out.1.cell 9 rfl
  have z9 := H1.out.1.free 9
  have c10 := H1.out.1.cell 10 rfl
  have z10 := H1.out.1.free 10
  have c11 := H1.out.1.cell 11 rfl
  have z11 := H1.out.1.free 11
  have c12 := H1.out.1.cell 12 rfl
  have z12 := H1.out.1.free 12
  clear f1
  go_wp2
  refine bodyPost_ret (v := .agg #[.int .i64 4, .int .i64 2, .int .i64 2, .int .i64 2, .int .i64 2, .int .i64 2, .int .i64 1, .int .i64 1, .int .i64 0, .int .i64 1, .int .i64 1, .int .i64 4, .int .i64 1]) (by simp [results, Tryd.results39, go_sem, c0, c1, c2, c3, c4, c5, c6, c7, c8, c9, c10, c11, c12]) rfl ⟨rfl, ?_⟩
  iterate 13 (refine Fr.setCell ?_ _ (.inr (Nat.le_refl _)))
  exact H1.out.2
set_option maxHeartbeats 4000000 in
theorem law25_Made23 (w : World) : Calls Tryd.prog 17 #[.int .i64 2, .int .i64 3] w fun e w' => e = .returned (.agg #[.int .i64 2, .int .i64 64, .int .i64 5, .int .i64 3, .int .i64 4, .int .i64 2, .int .i64 2, .int .i64 2, .int .i64 2, .int .i64 2, .int .i64 1, .int .i64 1, .int .i64 0, .int .i64 1, .int .i64 2, .int .i64 4, .int .i64 1]) ∧ Fr [] w w' := by
  have a3 : bits .and .i64 0 15 = 0 := by decide +kernel
  have a4 : bits .and .i64 3 7 = 3 := by decide +kernel
  have hb0 : Blk (w.alloc (.cells #[.int .i64 0, .int .i64 0, .int .i64 0, .int .i64 0, .int .i64 0, .int .i64 0, .int .i64 0, .int .i64 0, .int .i64 0, .int .i64 0, .int .i64 0, .int .i64 0, .int .i64 0, .int .i64 0, .int .i64 0, .int .i64 0, .int .i64 0] 40)) w.heap.size #[.int .i64 0, .int .i64 0, .int .i64 0, .int .i64 0, .int .i64 0, .int .i64 0, .int .i64 0, .int .i64 0, .int .i64 0, .int .i64 0, .int .i64 0, .int .i64 0, .int .i64 0, .int .i64 0, .int .i64 0, .int .i64 0, .int .i64 0] 40 := Blk.new _ _ _
  have HB := Lib.hid hb0
  clear hb0
  go_enter Tryd.func17, Tryd.ntmps17
  go_wp2_with fail
  refine (law24_Made3 _).mono ?_
  rintro e w1 ⟨rfl, f1⟩
  have H1 := Lib.hid (And.intro (HB.out.fr f1 (by simp)) (((Fr.refl [] w).alloc (.cells #[.int .i64 0, .int .i64 0, .int .i64 0, .int .i64 0, .int .i64 0, .int .i64 0, .int .i64 0, .int .i64 0, .int .i64 0, .int .i64 0, .int .i64 0, .int .i64 0, .int .i64 0, .int .i64 0, .int .i64 0, .int .i64 0, .int .i64 0] 40)).tr f1))
  obtain ⟨B, hB⟩ : ∃ B, w.heap.size = B := ⟨_, rfl⟩
  obtain ⟨C, hC⟩ : ∃ C, w1.heap.size = C := ⟨_, rfl⟩
  have hlt : B < C := by have := H1.out.1.lt; omega
  have H2 : Hid (Blk (w1.alloc (.cells #[.int .i64 0, .int .i64 0, .int .i64 0, .int .i64 0, .int .i64 0, .int .i64 0, .int .i64 0, .int .i64 0, .int .i64 0, .int .i64 0, .int .i64 0, .int .i64 0, .int .i64 0] 38)) B #[.int .i64 0, .int .i64 0, .int .i64 0, .int .i64 0, .int .i64 0, .int .i64 0, .int .i64 0, .int .i64 0, .int .i64 0, .int .i64 0, .int .i64 0, .int .i64 0, .int .i64 0, .int .i64 0, .int .i64 0, .int .i64 0, .int .i64 0] 40 ∧ Blk (w1.alloc (.cells #[.int .i64 0, .int .i64 0, .int .i64 0, .int .i64 0, .int .i64 0, .int .i64 0, .int .i64 0, .int .i64 0, .int .i64 0, .int .i64 0, .int .i64 0, .int .i64 0, .int .i64 0] 38)) C #[.int .i64 0, .int .i64 0, .int .i64 0, .int .i64 0, .int .i64 0, .int .i64 0, .int .i64 0, .int .i64 0, .int .i64 0, .int .i64 0, .int .i64 0, .int .i64 0, .int .i64 0] 38 ∧ Fr [] w (w1.alloc (.cells #[.int .i64 0, .int .i64 0, .int .i64 0, .int .i64 0, .int .i64 0, .int .i64 0, .int .i64 0, .int .i64 0, .int .i64 0, .int .i64 0, .int .i64 0, .int .i64 0, .int .i64 0] 38)) ∧ w.heap.size = B ∧ B < C) := Lib.hid ⟨by rw [← hB]; exact H1.out.1.alloc _, by rw [← hC]; exact Blk.new _ _ _, H1.out.2.alloc _, hB, hlt⟩
  clear hlt
  obtain ⟨CS, hCS⟩ : ∃ CS : Array Value, #[.int .i64 4, .int .i64 2, .int .i64 2, .int .i64 2, .int .i64 2, .int .i64 2, .int .i64 1, .int .i64 1, .int .i64 0, .int .i64 1, .int .i64 1, .int .i64 4, .int .i64 1] = CS := ⟨_, rfl⟩
  rw [hB, hCS]
  have HC : Hid (CS.size = 13 ∧ CS.all (·.oneCell') = true ∧ CS = #[.int .i64 4, .int .i64 2, .int .i64 2, .int .i64 2, .int .i64 2, .int .i64 2, .int .i64 1, .int .i64 1, .int .i64 0, .int .i64 1, .int .i64 1, .int .i64 4, .int .i64 1]) := Lib.hid (by rw [← hCS]; exact ⟨rfl, by simp [Value.oneCell'], rfl⟩)
  clear hCS f1 hB
  generalize hw2 : w1.alloc (.cells #[.int .i64 0, .int .i64 0, .int .i64 0, .int .i64 0, .int .i64 0, .int .i64 0, .int .i64 0, .int .i64 0, .int .i64 0, .int .i64 0, .int .i64 0, .int .i64 0, .int .i64 0] 38) = w2 at H2
  go_upto_region 2 with (refine wpList_store_row rfl 38 (.tmp 5) (.tmp 7) rfl C CS rfl rfl 38 #[.int .i64 0, .int .i64 0, .int .i64 0, .int .i64 0, .int .i64 0, .int .i64 0, .int .i64 0, .int .i64 0, .int .i64 0, .int .i64 0, .int .i64 0, .int .i64 0, .int .i64 0] H2.out.2.1 (by rw [HC.out.1]; kernel_rfl) (by rw [HC.out.1]; rfl) HC.out.2.1 ?_)
  obtain ⟨w3, hw3⟩ : ∃ w3, w2.setRow C CS = w3 := ⟨_, rfl⟩
  have H3 : Hid (Blk w3 B #[.int .i64 0, .int .i64 0, .int .i64 0, .int .i64 0, .int .i64 0, .int .i64 0, .int .i64 0, .int .i64 0, .int .i64 0, .int .i64 0, .int .i64 0, .int .i64 0, .int .i64 0, .int .i64 0, .int .i64 0, .int .i64 0, .int .i64 0] 40 ∧ Blk w3 C #[.int .i64 4, .int .i64 2, .int .i64 2, .int .i64 2, .int .i64 2, .int .i64 2, .int .i64 1, .int .i64 1, .int .i64 0, .int .i64 1, .int .i64 1, .int .i64 4, .int .i64 1] 38 ∧ Fr [] w w3) := Lib.hid (by
    have f3 : Fr [C] w2 (w2.setRow C CS) := (Fr.refl [C] w2).setRow _ (.inl (by simp))
    rw [← hw3, ← HC.out.2.2]
    exact ⟨H2.out.1.fr f3 (by have := H2.out.2.2.2.2; simp; omega), H2.out.2.1.setRow, H2.out.2.2.1.setRow _ (.inr (by have := H2.out.2.2.2; omega))⟩)
  rw [hw3]
  clear hw3
  have c10 := H3.out.2.1.cell 10 rfl
  have z10 := H3.out.2.1.free 10
  go_upto_region 3 with fail
  rw [show max (1 : Int) 2 = 2 from by decide]
  obtain ⟨w4, hw4⟩ : ∃ w4, w3.setCell ⟨C, 10, none⟩ (.int .i64 2) = w4 := ⟨_, rfl⟩
  have H4 : Hid (Blk w4 B #[.int .i64 0, .int .i64 0, .int .i64 0, .int .i64 0, .int .i64 0, .int .i64 0, .int .i64 0, .int .i64 0, .int .i64 0, .int .i64 0, .int .i64 0, .int .i64 0, .int .i64 0, .int .i64 0, .int .i64 0, .int .i64 0, .int .i64 0] 40 ∧ Blk w4 C #[.int .i64 4, .int .i64 2, .int .i64 2, .int .i64 2, .int .i64 2, .int .i64 2, .int .i64 1, .int .i64 1, .int .i64 0, .int .i64 1, .int .i64 2, .int .i64 4, .int .i64 1] 38 ∧ Fr [] w w4) := Lib.hid (by
    rw [← hw4]
    have f4 : Fr [C] w3 (w3.setCell ⟨C, 10, none⟩ (.int .i64 2)) := (Fr.refl [C] w3).setCell _ (.inl (by simp))
    exact ⟨H3.out.1.fr f4 (by have := H2.out.2.2.2.2; simp; omega), H3.out.2.1.set 10 (.int .i64 2) rfl, H3.out.2.2.setCell _ (.inr (by show w.heap.size ≤ C; have := H2.out.2.2.2; omega))⟩)
  rw [hw4]
  clear hw4 c10 z10
  have c0 := H4.out.1.cell 0 rfl
  have z0 := H4.out.1.free 0
  have c1 := H4.out.1.cell 1 rfl
  have z1 := H4.out.1.free 1
  have c2 := H4.out.1.cell 2 rfl
  have z2 := H4.out.1.free 2
  have c3 := H4.out.1.cell 3 rfl
  have z3 := H4.out.1.free 3
  have c4 := H4.out.1.cell 4 rfl
  have z4 := H4.out.1.free 4
  have c5 := H4.out.1.cell 5 rfl
  have z5 := H4.out.1.free 5
  have c6 := H4.out.1.cell 6 rfl
  have z6 := H4.out.1.free 6
  have c7 := H4.out.1.cell 7 rfl
  have z7 := H4.out.1.free 7
  have c8 := H4.out.1.cell 8 rfl
  have z8 := H4.out.1.free 8
  have c9 := H4.out.1.cell 9 rfl
  have z9 := H4.out.1.free 9
  have c10 := H4.out.1.cell 10 rfl
  have z10 := H4.out.1.free 10
  have c11 := H4.out.1.cell 11 rfl
  have z11 := H4.out.1.free 11
  have c12 := H4.out.1.cell 12 rfl
  have z12 := H4.out.1.free 12
  have c13 := H4.out.1.cell 13 rfl
  have z13 := H4.out.1.free 13
  have c14 := H4.out.1.cell 14 rfl
  have z14 := H4.out.1.free 14
  have c15 := H4.out.1.cell 15 rfl
  have z15 := H4.out.1.free 15
  have c16 := H4.out.1.cell 16 rfl
  have z16 := H4.out.1.free 16
  have d0 := H4.out.2.1.cell 0 rfl
  have d1 := H4.out.2.1.cell 1 rfl
  have d2 := H4.out.2.1.cell 2 rfl
  have d3 := H4.out.2.1.cell 3 rfl
  have d4 := H4.out.2.1.cell 4 rfl
  have d5 := H4.out.2.1.cell 5 rfl
  have d6 := H4.out.2.1.cell 6 rfl
  have d7 := H4.out.2.1.cell 7 rfl
  have d8 := H4.out.2.1.cell 8 rfl
  have d9 := H4.out.2.1.cell 9 rfl
  have d10 := H4.out.2.1.cell 10 rfl
  have d11 := H4.out.2.1.cell 11 rfl
  have d12 := H4.out.2.1.cell 12 rfl
  go_wp2_with fail
  refine bodyPost_ret (v := .agg #[.int .i64 2, .int .i64 64, .int .i64 5, .int .i64 3, .int .i64 4, .int .i64 2, .int .i64 2, .int .i64 2, .int .i64 2, .int .i64 2, .int .i64 1, .int .i64 1, .int .i64 0, .int .i64 1, .int .i64 2, .int .i64 4, .int .i64 1]) (by simp [results, Tryd.results17, go_sem, c0, c1, c2, c3, c4, c5, c6, c7, c8, c9, c10, c11, c12, c13, c14, c15, c16]) rfl ⟨rfl, ?_⟩
  iterate 17 (refine Fr.setCell ?_ _ (.inr (by show w.heap.size ≤ B; have := H2.out.2.2.2.1; omega)))
  exact H4.out.2.2

end Go.Proofs.YtodlbajpcbdbaaaDoor
namespace Go.Proofs.YtodlbajpcbdbaaaDoor
open Go.Lib
set_option linter.unusedVariables false
set_option linter.unusedSimpArgs false
set_option maxRecDepth 100000

def headW (c : List Int) : List (List UInt8) := [110, 101, 116] :: c.map itoa
def headX (c : List Int) : List UInt8 := join (headW c) [32]
def lineX (e : EV) : List UInt8 := match findD e.d with | some s => join (wordsE s e) [32] | none => []
def spareE (e : EV) : EV := match findD e.d with | some s => spareOn s.2.2 e (EV.zero s.1) | none => e
theorem itoa_plain (n : Int) : Plainc (itoa n) := by
  intro c hc
  have := itoa_char n c hc
  omega
theorem headW_plain (c : List Int) : ∀ x ∈ headW c, Plainc x := by
  intro x hx
  rcases List.mem_cons.1 hx with rfl | hx
  · intro c hc
    simp at hc
    rcases hc with rfl | rfl | rfl <;> decide
  · obtain ⟨n, _, rfl⟩ := List.mem_map.1 hx
    exact itoa_plain n
theorem join_no10 : ∀ (L : List (List UInt8)), (∀ x ∈ L, (10 : UInt8) ∉ x) → (10 : UInt8) ∉ join L [32]
  | [], _ => by simp [join]
  | [x], h => by simpa [join] using h x (by simp)
  | x :: y :: r, h => by
    rw [join_cons2]
    simp only [List.mem_append, List.mem_singleton, not_or]
    exact ⟨⟨h x (by simp), by decide⟩, join_no10 (y :: r) (fun z hz => h z (List.mem_cons_of_mem _ hz))⟩
theorem headX_no10 (c : List Int) : (10 : UInt8) ∉ headX c := join_no10 _ fun x hx => (headW_plain c x hx).nin.2
theorem lineX_no10 (e : EV) : (10 : UInt8) ∉ lineX e := by
  unfold lineX
  split
  · rename_i s hs
    exact join_no10 _ fun x hx => (wordsE_plain (findD_some hs).1 e x hx).nin.2
  · simp
theorem textM_lines (c : List Int) : ∀ (l : List EV), anyNo l = false → textM c l = ((headX c :: l.map lineX).map (· ++ [10])).flatten := by
  intro l h
  have key : ∀ l : List EV, anyNo l = false → l.flatMap lineD = ((l.map lineX).map (· ++ [10])).flatten := by
    intro l
    induction l with
    | nil => intro _; rfl
    | cons e r ih =>
      intro h
      unfold anyNo at h
      rw [List.any_cons, Bool.or_eq_false_iff] at h
      rw [List.flatMap_cons, ih h.2, List.map_cons, List.map_cons, List.flatten_cons]
      congr 1
      unfold lineD lineX
      cases hs : findD e.d with
      | some s => rfl
      | none => have := h.1; rw [hs] at this; simp at this
  unfold textM
  rw [key l h, List.map_cons, List.flatten_cons]
  rfl
theorem splitc_text (c : List Int) (l : List EV) (h : anyNo l = false) : splitc 10 (textM c l) = (headX c :: l.map lineX) ++ [[]] := by
  rw [textM_lines c l h]
  have := splitc_lines 10 (headX c :: l.map lineX) [] (fun x hx => by
    rcases List.mem_cons.1 hx with rfl | hx
    · exact headX_no10 c
    · obtain ⟨e, _, rfl⟩ := List.mem_map.1 hx
      exact lineX_no10 e) (by simp)
  rwa [List.append_nil] at this
theorem splitc_headX (c : List Int) : splitc 32 (headX c) = headW c := splitc_join 32 _ (by simp [headW]) fun x hx => (headW_plain c x hx).nin.1
theorem mapM_itoa : ∀ (c : List Int), (∀ x ∈ c, In64 x) → (c.map itoa).mapM numM = some c
  | [], _ => rfl
  | x :: r, h => by
    rw [List.map_cons, List.mapM_cons, numM_itoa x (h x (by simp)).1 (h x (by simp)).2, mapM_itoa r fun y hy => h y (List.mem_cons_of_mem _ hy)]
    rfl
theorem configM_headX (c : List Int) (h : c.length = 17) (hc : ∀ x ∈ c, In64 x) : configM (splitc 32 (headX c)) = some c := by
  rw [splitc_headX]
  unfold configM headW
  rw [if_pos ⟨rfl, by simp [h]⟩]
  exact mapM_itoa c hc
theorem eventM_lineX {e : EV} (ho : e.Ok) (h : (findD e.d).isSome = true) : eventM (splitc 32 (lineX e)) = some (spareE e) := by
  obtain ⟨s, hs⟩ := Option.isSome_iff_exists.1 h
  unfold lineX spareE
  rw [hs]
  have hm := (findD_some hs).1
  simp only
  rw [splitc_join 32 _ (by simp [wordsE]) (fun x hx => (wordsE_plain hm e x hx).nin.1)]
  exact eventM_wordsE hm ho
theorem goL_events (c : List Int) : ∀ (l : List EV) (i : Nat) (acc : List EV), (∀ e ∈ l, e.Ok) → anyNo l = false → goL (i + 1) (l.map lineX) c acc = .ok (c, acc ++ l.map spareE)
  | [], i, acc, _, _ => by simp [goL]
  | e :: r, i, acc, ho, hn => by
    unfold anyNo at hn
    rw [List.any_cons, Bool.or_eq_false_iff] at hn
    rw [List.map_cons, goL, eventM_lineX (ho e (by simp)) (by have := hn.1; cases h : findD e.d with | some s => rfl | none => rw [h] at this; simp at this)]
    simp only
    rw [goL_events c r (i + 1) (acc ++ [spareE e]) (fun x hx => ho x (List.mem_cons_of_mem _ hx)) hn.2, List.map_cons, List.append_assoc]
    rfl
theorem printM_inv {c : List Int} {l : List EV} {t : List UInt8} (h : printM c l = .ok t) : anyNo l = false ∧ l.length ≤ 2047 ∧ t.length ≤ 65536 ∧ t = textM c l := by
  unfold printM at h
  split at h
  · cases h
  · split at h
    · cases h
    · split at h
      · cases h
      · cases h
        rename_i h1 h2 h3
        exact ⟨by simpa using h1, by omega, by omega, rfl⟩
/-- What is printed is read again. -/
theorem parse_print {c : List Int} {l : List EV} {t : List UInt8} (hc : c.length = 17) (hi : ∀ x ∈ c, In64 x) (ho : ∀ e ∈ l, e.Ok) (h : printM c l = .ok t) : parseM t = .ok (c, l.map spareE) := by
  obtain ⟨h1, h2, h3, rfl⟩ := printM_inv h
  have hs := splitc_text c l h1
  have hn : lineN (textM c l) = l.length + 1 := by unfold lineN; rw [hs]; simp
  have hl : lastL (textM c l) = [] := by
    unfold lastL
    rw [hn, hs, List.getD_eq_getElem?_getD, List.getElem?_append_right (by simp)]
    simp
  unfold parseM
  rw [hn, hl, if_neg (by
    unfold longB
    simp
    omega), hs]
  rw [List.take_left' (by simp), goL, configM_headX c hc hi]
  simp only
  rw [show (1 : Nat) = 0 + 1 from rfl, goL_events c l 0 [] ho h1, List.nil_append]
  unfold endM
  simp
theorem setF_Ok {e e' : EV} {c : UInt8} {w : List UInt8} (ho : e.Ok) (h : setF e c w = some e') : e'.Ok ∧ e'.b.length ≤ max e.b.length w.length := by
  unfold setF at h
  split at h
  · split at h
    · cases h; exact ⟨⟨ho.1, ho.2, ho.3, ho.4, ho.5, ho.6⟩, Nat.le_max_left _ _⟩
    · split at h
      · cases h; exact ⟨⟨ho.1, ho.2, ho.3, ho.4, ho.5, ho.6⟩, Nat.le_max_left _ _⟩
      · cases h
  · split at h
    · split at h
      · rename_i b hb
        cases h
        refine ⟨⟨ho.1, ho.2, ho.3, ho.4, ho.5, ho.6⟩, ?_⟩
        have hw := hexM_rawM hb
        have : b.length ≤ w.length := by
          rw [← hw]
          unfold hexM
          split
          · rename_i h0; rw [h0]; simp
          · rw [hexL_len]; omega
        exact Nat.le_trans this (Nat.le_max_right _ _)
      · cases h
    · split at h
      · rename_i x hx
        cases h
        have hr := numM_range hx
        refine ⟨?_, by rw [put_b]; exact Nat.le_max_left _ _⟩
        unfold EV.put
        split
        · exact ⟨ho.1, hr, ho.3, ho.4, ho.5, ho.6⟩
        · split
          · exact ⟨ho.1, ho.2, hr, ho.4, ho.5, ho.6⟩
          · split
            · exact ⟨ho.1, ho.2, ho.3, ho.4, hr, ho.6⟩
            · split
              · exact ⟨ho.1, ho.2, ho.3, ho.4, ho.5, hr⟩
              · split
                · exact ⟨ho.1, ho.2, ho.3, hr, ho.5, ho.6⟩
                · exact ho
      · cases h
theorem setAll_Ok (m : Nat) : ∀ (cs : List UInt8) (ws : List (List UInt8)) (e e' : EV), e.Ok → e.b.length ≤ m → (∀ w ∈ ws, w.length ≤ m) → setAll cs ws e = some e' → e'.Ok ∧ e'.b.length ≤ m
  | [], ws, e, e', ho, hb, hw, h => by
    cases ws <;> (simp only [setAll, Option.some.injEq] at h; subst h; exact ⟨ho, hb⟩)
  | c :: cs, [], e, e', ho, hb, hw, h => by simp only [setAll, Option.some.injEq] at h; subst h; exact ⟨ho, hb⟩
  | c :: cs, w :: ws, e, e', ho, hb, hw, h => by
    rw [setAll] at h
    cases hf : setF e c w with
    | none => rw [hf] at h; cases h
    | some e1 =>
      rw [hf] at h
      obtain ⟨h1, h2⟩ := setF_Ok ho hf
      have := hw w (by simp)
      exact setAll_Ok m cs ws e1 e' h1 (by omega) (fun x hx => hw x (List.mem_cons_of_mem _ hx)) h
theorem shapes_in : (shapesM.all fun s => decide (0 ≤ s.1 ∧ s.1 ≤ 100)) = true := by decide +kernel
theorem zero_Ok {s : SH} (h : s ∈ shapesM) : (EV.zero s.1).Ok := by
  have := List.all_eq_true.1 shapes_in s h
  simp at this
  have z : In64 0 := ⟨by omega, by omega⟩
  exact ⟨⟨by show _ ≤ s.1; omega, by show s.1 ≤ _; omega⟩, z, z, z, z, z⟩
theorem eventM_Ok {ws : List (List UInt8)} {e : EV} {m : Nat} (hw : ∀ w ∈ ws, w.length ≤ m) (h : eventM ws = some e) : e.Ok ∧ e.b.length ≤ m := by
  unfold eventM at h
  split at h
  · rename_i s hs
    exact setAll_Ok m s.2.2 ws.tail _ e (zero_Ok (findW_some hs).1) (Nat.zero_le _) (fun w hx => hw w (List.mem_of_mem_tail hx)) h
  · cases h
theorem mapM_numM : ∀ (ws : List (List UInt8)) (c : List Int), ws.mapM numM = some c → ws = c.map itoa ∧ ∀ x ∈ c, In64 x
  | [], c, h => by
    simp only [List.mapM_nil] at h
    cases h
    exact ⟨rfl, by simp⟩
  | w :: r, c, h => by
    rw [List.mapM_cons] at h
    cases hw : numM w with
    | none => rw [hw] at h; cases h
    | some x =>
      rw [hw] at h
      cases hr : r.mapM numM with
      | none => rw [hr] at h; cases h
      | some y =>
        rw [hr] at h
        cases h
        obtain ⟨h1, h2⟩ := mapM_numM r y hr
        refine ⟨by rw [List.map_cons, ← h1, itoa_numM hw], fun z hz => ?_⟩
        rcases List.mem_cons.1 hz with rfl | hz
        · exact numM_range hw
        · exact h2 z hz
theorem configM_inv {x : List UInt8} {c : List Int} (h : configM (splitc 32 x) = some c) : headX c = x ∧ c.length = 17 ∧ ∀ y ∈ c, In64 y := by
  unfold configM at h
  split at h
  · rename_i hh
    obtain ⟨h1, h2⟩ := hh
    obtain ⟨h3, h4⟩ := mapM_numM _ _ h
    have hne := splitc_ne 32 x
    have hw : splitc 32 x = headW c := by
      cases hs : splitc 32 x with
      | nil => exact absurd hs hne
      | cons a r =>
        rw [hs] at h1 h3
        simp only [List.headD_cons, List.tail_cons] at h1 h3
        unfold headW
        rw [h1, h3]
    refine ⟨by unfold headX; rw [← hw, join_splitc], ?_, h4⟩
    rw [hw] at h2
    simpa [headW] using h2
  · cases h
theorem eventM_inv {x : List UInt8} {e : EV} (h : eventM (splitc 32 x) = some e) : lineX e = x ∧ (findD e.d).isSome = true ∧ e.Ok ∧ e.b.length ≤ x.length := by
  obtain ⟨s, h1, h2, h3⟩ := eventM_words h (splitc_ne 32 x)
  obtain ⟨h4, h5⟩ := eventM_Ok (m := x.length) (splitc_le 32 x) h
  refine ⟨?_, by rw [h1]; rfl, h4, h5⟩
  unfold lineX
  rw [h1]
  show join (wordsE s e) [32] = x
  rw [h3, join_splitc]
theorem goL_inv (m : Nat) : ∀ (xs : List (List UInt8)) (i : Nat) (c c' : List Int) (acc l : List EV), (∀ x ∈ xs, x.length ≤ m) → goL (i + 1) xs c acc = .ok (c', l) → ∃ l2, c' = c ∧ l = acc ++ l2 ∧ l2.map lineX = xs ∧ anyNo l2 = false ∧ ∀ e ∈ l2, e.Ok ∧ e.b.length ≤ m
  | [], i, c, c', acc, l, hm, h => by
    simp only [goL] at h
    cases h
    exact ⟨[], rfl, by simp, rfl, rfl, by simp⟩
  | x :: r, i, c, c', acc, l, hm, h => by
    rw [goL] at h
    cases he : eventM (splitc 32 x) with
    | none => rw [he] at h; cases h
    | some e =>
      rw [he] at h
      obtain ⟨l2, h1, h2, h3, h4, h5⟩ := goL_inv m r (i + 1) c c' (acc ++ [e]) l (fun y hy => hm y (List.mem_cons_of_mem _ hy)) h
      obtain ⟨g1, g2, g3, g4⟩ := eventM_inv he
      refine ⟨e :: l2, h1, by rw [h2, List.append_assoc]; rfl, by rw [List.map_cons, g1, h3], ?_, fun y hy => ?_⟩
      · unfold anyNo at h4 ⊢
        rw [List.any_cons, h4, Bool.or_false]
        cases hf : findD e.d with
        | none => rw [hf] at g2; cases g2
        | some s => rfl
      · rcases List.mem_cons.1 hy with rfl | hy
        · have := hm x (by simp); exact ⟨g3, by omega⟩
        · exact h5 y hy
/-- What is read is printed again. -/
theorem print_parse {t : List UInt8} {c : List Int} {l : List EV} (h : parseM t = .ok (c, l)) : printM c l = .ok t ∧ c.length = 17 ∧ (∀ x ∈ c, In64 x) ∧ ∀ e ∈ l, e.Ok ∧ e.b.length ≤ t.length := by
  unfold parseM at h
  split at h
  · cases h
  · rename_i hlong
    unfold endM at h
    split at h
    · cases h
    · rename_i r hr
      split at h
      · cases h
      · rename_i hend
        cases h
        have hne := splitc_ne 10 t
        obtain ⟨z, L, hL⟩ : ∃ z L, splitc 10 t = L ++ [z] := ⟨_, _, (List.dropLast_concat_getLast hne).symm⟩
        have hn : lineN t = L.length := by unfold lineN; rw [hL]; simp
        have hz : lastL t = z := by unfold lastL; rw [hn, hL, List.getD_eq_getElem?_getD]; simp
        rw [hn, hz] at hend hlong
        rw [hn, hL, List.take_left' rfl] at hr
        simp only [not_or, ne_eq, Decidable.not_not] at hend
        obtain ⟨he1, he2⟩ := hend
        subst he2
        have ht := lines_splitc 10 L [] t hL
        rw [List.append_nil] at ht
        have hxl : ∀ x ∈ L, x.length ≤ t.length := fun x hx => splitc_le 10 t x (by rw [hL]; simp [hx])
        cases L with
        | nil => exact absurd rfl he1
        | cons x0 xs =>
          rw [goL] at hr
          cases hc : configM (splitc 32 x0) with
          | none => rw [hc] at hr; cases hr
          | some c0 =>
            rw [hc] at hr
            obtain ⟨g1, g2, g3⟩ := configM_inv hc
            obtain ⟨l2, h1, h2, h3, h4, h5⟩ := goL_inv t.length xs 0 c0 c [] l (fun y hy => hxl y (List.mem_cons_of_mem _ hy)) hr
            subst h1
            rw [List.nil_append] at h2
            subst h2
            have hll : l.length = xs.length := by rw [← h3]; simp
            have htx : textM c l = t := by rw [textM_lines c l h4, g1, h3, ht]
            refine ⟨?_, g2, g3, h5⟩
            unfold longB at hlong
            simp at hlong
            rw [printM_ok h4 (by omega) (by rw [htx]; omega), htx]
end Go.Proofs.YtodlbajpcbdbaaaDoor
namespace Go.Proofs.YtodlbajpcbdbaaaDoor
open Go.RowKit Go.Shelf
set_option linter.unusedVariables false
set_option linter.unusedSimpArgs false
set_option maxRecDepth 100000

theorem lit_one (D : Nat) (x : Int) (h : In64 x) : Tryd.prog.keyLits (D + 1) 3 [.int .i64 x] = some [.int .i64 x] := by
  have hw : (Lit.int .i64 x).wf = true := by unfold In64 at h; have h1 : IntKind.i64.min = -9223372036854775808 := rfl; have h2 : IntKind.i64.max = 9223372036854775807 := rfl; simp [Lit.wf, h1, h2]; omega
  simp [Program.keyLits, Tryd.underlying3, hw]
theorem cfg_lits (c : List Int) (hc : c.length = 17) (hi : ∀ x ∈ c, In64 x) : Tryd.prog.keyLits 4 30 (intsV c).toList = some (c.map (Lit.int .i64)) := by
  match c, hc with
  | [a0, a1, a2, a3, a4, a5, a6, a7, a8, a9, a10, a11, a12, a13, a14, a15, a16], _ =>
    have i0 := fun D => lit_one D a0 (hi _ (by simp))
    have i1 := fun D => lit_one D a1 (hi _ (by simp))
    have i2 := fun D => lit_one D a2 (hi _ (by simp))
    have i3 := fun D => lit_one D a3 (hi _ (by simp))
    have i4 := fun D => lit_one D a4 (hi _ (by simp))
    have i5 := fun D => lit_one D a5 (hi _ (by simp))
    have i6 := fun D => lit_one D a6 (hi _ (by simp))
    have i7 := fun D => lit_one D a7 (hi _ (by simp))
    have i8 := fun D => lit_one D a8 (hi _ (by simp))
    have i9 := fun D => lit_one D a9 (hi _ (by simp))
    have i10 := fun D => lit_one D a10 (hi _ (by simp))
    have i11 := fun D => lit_one D a11 (hi _ (by simp))
    have i12 := fun D => lit_one D a12 (hi _ (by simp))
    have i13 := fun D => lit_one D a13 (hi _ (by simp))
    have i14 := fun D => lit_one D a14 (hi _ (by simp))
    have i15 := fun D => lit_one D a15 (hi _ (by simp))
    have i16 := fun D => lit_one D a16 (hi _ (by simp))
    have q1 : Tryd.prog.cellsOf 3 = 1 := by kernel_rfl
    have q6 : Tryd.prog.cellsOf 24 = 6 := by kernel_rfl
    have q3 : Tryd.prog.cellsOf 26 = 3 := by kernel_rfl
    have q13 : Tryd.prog.cellsOf 28 = 13 := by kernel_rfl
    have q17 : Tryd.prog.cellsOf 30 = 17 := by kernel_rfl
    have t6 : ∀ D, Tryd.prog.keyLits (D + 2) 24 [.int .i64 a4, .int .i64 a5, .int .i64 a6, .int .i64 a7, .int .i64 a8, .int .i64 a9] = some [.int .i64 a4, .int .i64 a5, .int .i64 a6, .int .i64 a7, .int .i64 a8, .int .i64 a9] := fun D => by
      show Program.keyLits _ ((D + 1) + 1) _ _ = _
      unfold Program.keyLits
      simp [Tryd.underlying24, q1, q6, i4, i5, i6, i7, i8, i9]
    have t3 : ∀ D, Tryd.prog.keyLits (D + 2) 26 [.int .i64 a10, .int .i64 a11, .int .i64 a12] = some [.int .i64 a10, .int .i64 a11, .int .i64 a12] := fun D => by
      show Program.keyLits _ ((D + 1) + 1) _ _ = _
      unfold Program.keyLits
      simp [Tryd.underlying26, q1, q3, i10, i11, i12]
    have t13 : ∀ D, Tryd.prog.keyLits (D + 3) 28 [.int .i64 a4, .int .i64 a5, .int .i64 a6, .int .i64 a7, .int .i64 a8, .int .i64 a9, .int .i64 a10, .int .i64 a11, .int .i64 a12, .int .i64 a13, .int .i64 a14, .int .i64 a15, .int .i64 a16] = some [.int .i64 a4, .int .i64 a5, .int .i64 a6, .int .i64 a7, .int .i64 a8, .int .i64 a9, .int .i64 a10, .int .i64 a11, .int .i64 a12, .int .i64 a13, .int .i64 a14, .int .i64 a15, .int .i64 a16] := fun D => by
      show Program.keyLits _ ((D + 2) + 1) _ _ = _
      unfold Program.keyLits
      simp [Tryd.underlying28, q1, q3, q6, q13, i13, i14, i15, i16, t6, t3]
    show Program.keyLits _ (3 + 1) _ _ = _
    unfold Program.keyLits
    simp [intsV, Tryd.underlying30, q1, q13, q17, i0, i1, i2, i3, t13 0]
theorem cfg_eq (c d : List Int) (hc : c.length = 17) (hci : ∀ x ∈ c, In64 x) (hd : d.length = 17) (hdi : ∀ x ∈ d, In64 x) (w : World) :
    (Op.equalIn 10000 30 (.agg (intsV c)) (.agg (intsV d))).run Tryd.prog w = .ok (decide (c = d)) w := by
  have hf : ∀ c : List Int, c.length = 17 → Value.formed Tryd.prog 30 (.agg (intsV c)) = true := fun c hc => by 
    have q17 : Tryd.prog.cellsOf 30 = 17 := by kernel_rfl
    simp [Value.formed, Tryd.underlying30, q17, intsV, hc]
  obtain ⟨r, hr, hiff⟩ := run_equalIn_deep (P := Tryd.prog) 9996 4 30 (by kernel_rfl) w 4 4 (.agg (intsV c)) (.agg (intsV d)) _ _ (hf c hc) (hf d hd) (cfg_lits c hc hci) (cfg_lits d hd hdi)
  rw [hr]
  have : r = decide (c = d) := by
    have hinj : (c.map (Lit.int .i64) = d.map (Lit.int .i64)) ↔ c = d := by
      constructor
      · intro h
        exact (List.map_inj_right (by intro a b e; cases e; rfl)).1 h
      · rintro rfl; rfl
    rw [hinj] at hiff
    cases r with
    | true => rw [decide_eq_true (hiff.1 rfl)]
    | false => rw [decide_eq_false (fun e => by have := hiff.2 e; cases this)]
  rw [this]
theorem cfg_eql (c d : List Int) (hc : c.length = 17) (hci : ∀ x ∈ c, In64 x) (hd : d.length = 17) (hdi : ∀ x ∈ d, In64 x) (w : World) :
    (binOp .eql 30 (.agg (intsV c)) (.agg (intsV d))).run Tryd.prog w = .ok (.bool (decide (c = d))) w := by
  have h := cfg_eq c d hc hci hd hdi w
  simp only [binOp]
  simp [Op.equal, Op.maxDepth, h]
end Go.Proofs.YtodlbajpcbdbaaaDoor
namespace Go.Proofs.YtodlbajpcbdbaaaDoor
open Go.RowKit Go.Shelf
set_option linter.unusedVariables false
set_option linter.unusedSimpArgs false
set_option maxRecDepth 100000

def cA : List Int := [2, 64, 5, 3, 4, 2, 2, 2, 2, 2, 1, 1, 0, 1, 2, 4, 1]
def eA : EV := ⟨19, 1, 0, 0, 0, 0, false, []⟩
theorem cA_len : cA.length = 17 := rfl
theorem cA_in : ∀ x ∈ cA, In64 x := by
  intro x hx
  simp [cA] at hx
  unfold In64
  omega
theorem eA_Ok : eA.Ok := ⟨⟨by decide, by decide⟩, ⟨by decide, by decide⟩, ⟨by decide, by decide⟩, ⟨by decide, by decide⟩, ⟨by decide, by decide⟩, ⟨by decide, by decide⟩⟩
theorem printM_A : printM cA [eA] = .ok (textM cA [eA]) ∧ (textM cA [eA]).length ≤ 2000000 := by
  have h1 := headM_len cA cA_len cA_in
  have h2 : (textM cA [eA]).length ≤ 2000 := by
    have hd : findD eA.d = some (19, [116, 105, 99, 107], [102]) := by kernel_rfl
    have h3 : lineD eA = Lib.join [[116, 105, 99, 107], Lib.itoa 1] [32] ++ [10] := by unfold lineD; rw [hd]; rfl
    have h4 := Lib.itoa_length_le 1 (by decide) (by decide)
    unfold textM headM
    simp only [List.flatMap_cons, List.flatMap_nil, h3, List.length_append, Lib.join_length, List.length_cons, List.length_nil]
    rw [Lib.join_length] at h1
    simp [Lib.lens] at h1 ⊢
    omega
  exact ⟨printM_ok (by kernel_rfl) (by simp) (by omega), by omega⟩
theorem ownsRow_blkZ {w : World} {B b z n : Nat} {cs : Array Value} {t : TypeId} (h : Blk w b cs t) (hb : B ≤ b) (hn : n ≤ maxLen) (hs : cs.size = n * z) : w.ownsRow B t z (.slice (some ⟨b, 0, none⟩) n n) n cs.toList :=
  ⟨by rw [Array.length_toList, hs], .inr ⟨b, n, cs, rfl, hb, h, Nat.le_refl _, hn, hs, by rw [← hs, ← Array.length_toList, List.take_length]⟩⟩
theorem erow_one {w : World} {b : Nat} {e : EV} {s : Sl} {N : Nat} (h : Blk w b (e.arr s) 63) (hb : Bts N w s (bytesI e.b)) : ERow N b ⟨some ⟨b, 0, none⟩, 1, 1⟩ [e] w := by
  refine ⟨[(e.arr s).toList], ?_, ⟨⟨s, rfl, hb⟩, trivial⟩, by simp [EV.arr]⟩
  have := ownsRow_blkZ (B := b) (z := 8) (n := 1) h (Nat.le_refl _) (by unfold maxLen; omega) rfl
  simpa using this
theorem wpList_load_rowW {P : Program} {ops : Array Oper} {rest : List Oper} {o : Oper} {a : Act} {w : World} {Q : Exit → Act → World → Prop} (hgd : Region.wanted o (yielded ops a.tmps) = true) (ty : TypeId) (x : Operand) (ho : o.op = .load ty x)
    (g : Nat) (hx : a.eval x = .pointer (some ⟨g, 0, none⟩)) (t : TypeId) (cs : Array Value) (fr : Nat × Nat) (d : TypeDesc) (hg : w.heap[g]? = some (.cells cs t fr))
    (hu : P.underlying ty = some d) (hd : (match d with | .struct _ | .array _ _ => true | _ => false) = true) (hi : (P.info? ty).map (·.size) = some cs.size)
    (h : wpList P ops Q rest (a.put o.dst (.agg cs)) w) : wpList P ops Q (o :: rest) a w := by
  show (if Region.wanted o (yielded ops a.tmps) then _ else _)
  rw [if_pos hgd]
  exact .inl (wp_load_row ty x ho g hx t cs fr d hg hu hd hi h)
theorem cA_eq (w : World) : (Op.equalIn 10000 30 (.agg (intsV cA)) (.agg (intsV cA))).run Tryd.prog w = .ok true w := by
  rw [cfg_eq cA cA cA_len cA_in cA_len cA_in]; simp
attribute [local go_sem high] cA_eq
theorem eA_spare : spareE eA = eA := by kernel_rfl
set_option maxRecDepth 100000 in
set_option maxHeartbeats 8000000 in
theorem law28_awake (w : World) (hE : Env w) : Calls Tryd.prog 7 #[] w fun e w' => e = .returned (.bool true) ∧ Fr [] w w' := by
  have hm : Calls Tryd.prog 17 #[.int .i64 2, .int .i64 3] w fun e w' => e = .returned (.agg (intsV cA)) ∧ Fr [] w w' := law25_Made23 w
  have HE := Lib.hid hE
  clear hE
  go_enter Tryd.func7, Tryd.ntmps7
  go_wp2_with fail
  refine hm.mono ?_
  rintro e w1 ⟨rfl, f1⟩
  have HF1 := Lib.hid f1
  clear hm f1
  go_wp2_with fail
  refine (law25_ConfigL cA cA_len w1).mono ?_
  rintro e w2 ⟨rfl, f2⟩
  have hb2 : Blk (w2.alloc (.cells (intsV zeros17) 30)) w2.heap.size (intsV zeros17) 30 := Blk.new _ _ _
  have H2 := Lib.hid (And.intro hb2 (HF1.out.tr f2))
  clear f2 hb2
  go_upto_region 2 with (refine wpList_store_row rfl 30 (.tmp 1) (.tmp 9) rfl w2.heap.size (intsV cA) rfl rfl 30 (intsV zeros17) H2.out.1 (by kernel_rfl) rfl (intsV_one _) ?_)
  obtain ⟨w3, hw3⟩ : ∃ w3, (w2.alloc (.cells (intsV zeros17) 30)).setRow w2.heap.size (intsV cA) = w3 := ⟨_, rfl⟩
  obtain ⟨C, hC⟩ : ∃ C, w2.heap.size = C := ⟨_, rfl⟩
  have H3 : Hid (Blk w3 C (intsV cA) 30 ∧ Fr [] w w3) := Lib.hid (by
    rw [← hw3, ← hC]
    exact ⟨H2.out.1.setRow, (H2.out.2.alloc _).setRow _ (.inr H2.out.2.size)⟩)
  rw [show (#[Value.int .i64 0, Value.int .i64 0, Value.int .i64 0, Value.int .i64 0, Value.int .i64 0, Value.int .i64 0, Value.int .i64 0, Value.int .i64 0, Value.int .i64 0, Value.int .i64 0, Value.int .i64 0, Value.int .i64 0, Value.int .i64 0, Value.int .i64 0, Value.int .i64 0, Value.int .i64 0, Value.int .i64 0] : Array Value) = intsV zeros17 from rfl, hw3]
  rw [hC]
  clear hC hw3
  have hb4 : Blk (w3.alloc (.cells (eA.arr Sl.nil) 63)) w3.heap.size (eA.arr Sl.nil) 63 := Blk.new _ _ _
  have hpr := scr_Print (w3.alloc (.cells (eA.arr Sl.nil) 63)) 0 ⟨some ⟨w3.heap.size, 0, none⟩, 1, 1⟩ cA [eA] (HE.out.fr0 (H3.out.2.alloc _)) cA_len cA_in ((erow_one hb4 (Bts.nil _ _)).low (Nat.zero_le _)) (Nat.zero_le _) (by simp) (by intro e he; simp at he; subst he; exact ⟨by decide, eA_Ok⟩)
  have H4 := Lib.hid (H3.out.2.alloc (.cells (eA.arr Sl.nil) 63))
  have hC4 := Lib.hid (H3.out.1.alloc (.cells (eA.arr Sl.nil) 63))
  clear hb4
  go_wp2_with (refine wpList_load_row rfl 30 (.tmp 1) rfl C rfl 30 (intsV cA) (0, 0) _ H3.out.1 Tryd.underlying30 rfl (by kernel_rfl) ?_)
  refine hpr.mono ?_
  rintro e w5 ⟨hp5, f5⟩
  unfold PrPost at hp5
  rw [printM_A.1] at hp5
  dsimp only at hp5
  subst hp5
  obtain ⟨t, ht⟩ : ∃ t : ByteArray, (⟨(textM cA [eA]).toArray⟩ : ByteArray) = t := ⟨_, rfl⟩
  rw [ht]
  have hps := scr_Parse w5 t (HE.out.fr0 (H4.out.tr f5)) (by rw [← ht]; exact printM_A.2)
  have hpm : parseM t.bytes = .ok (cA, [eA]) := by
    rw [← ht]
    have := parse_print cA_len cA_in (by intro e he; simp at he; subst he; exact eA_Ok) printM_A.1
    rw [show [eA].map spareE = [eA] by rw [List.map_cons, eA_spare]; rfl] at this
    exact this
  have H5 := Lib.hid (And.intro (hC4.out.fr f5 (by simp)) (And.intro (H4.out.tr f5) hpm))
  clear hpr f5 ht hpm
  go_wp2_with fail
  refine hps.mono ?_
  rintro e w6 ⟨f6, hp6⟩
  rw [H5.out.2.2] at hp6
  obtain ⟨-, sl, rfl, hrow⟩ := hp6
  obtain ⟨b, sd, hA, -, g0, g1, -⟩ := ERow.get hrow (show [eA][0]? = some eA from rfl)
  have hn : sl.n = 1 := RowG.n hrow
  obtain ⟨A, n, c⟩ := sl
  simp only at hA hn
  subst hA hn
  have hb6 : Blk (w6.alloc (.cells (intsV zeros17) 30)) w6.heap.size (intsV zeros17) 30 := Blk.new _ _ _
  have H6 := Lib.hid (And.intro hb6 (And.intro (H5.out.1.fr f6 (by simp)) (And.intro (H5.out.2.1.tr f6) (And.intro g0 g1))))
  clear hps hb6 f6 g0 g1 hrow
  go_upto_region 4 with (refine wpList_store_row rfl 30 (.tmp 4) (.tmp 20) rfl w6.heap.size (intsV cA) rfl rfl 30 (intsV zeros17) H6.out.1 (by kernel_rfl) rfl (intsV_one _) ?_)
  obtain ⟨w7, hw7⟩ : ∃ w7, (w6.alloc (.cells (intsV zeros17) 30)).setRow w6.heap.size (intsV cA) = w7 := ⟨_, rfl⟩
  obtain ⟨D, hD⟩ : ∃ D, w6.heap.size = D := ⟨_, rfl⟩
  have H7 : Hid (Blk w7 D (intsV cA) 30 ∧ Blk w7 C (intsV cA) 30 ∧ Fr [] w w7 ∧ w7.cell? ⟨b, 0, none⟩ = some (.int .i64 19) ∧ w7.cell? ⟨b, 1, none⟩ = some (.int .i64 1)) := Lib.hid (by
    have f7 : Fr [] w6 w7 := by rw [← hw7]; exact ((Fr.refl [] w6).alloc _).setRow _ (.inr (Nat.le_refl _))
    refine ⟨by rw [← hw7, ← hD]; exact H6.out.1.setRow, H6.out.2.1.fr f7 (by simp), H6.out.2.2.1.tr f7, f7.cell H6.out.2.2.2.1 (by simp), f7.cell H6.out.2.2.2.2 (by simp)⟩)
  rw [show (#[Value.int .i64 0, Value.int .i64 0, Value.int .i64 0, Value.int .i64 0, Value.int .i64 0, Value.int .i64 0, Value.int .i64 0, Value.int .i64 0, Value.int .i64 0, Value.int .i64 0, Value.int .i64 0, Value.int .i64 0, Value.int .i64 0, Value.int .i64 0, Value.int .i64 0, Value.int .i64 0, Value.int .i64 0] : Array Value) = intsV zeros17 from rfl, hw7, hD]
  have g0 := H7.out.2.2.2.1
  have g1 := H7.out.2.2.2.2
  clear hD hw7
  go_wp2_with (first | (refine wpList_load_rowW rfl 30 (.tmp 4) rfl D rfl 30 (intsV cA) (0, 0) _ H7.out.1 Tryd.underlying30 rfl (by kernel_rfl) ?_) | (refine wpList_load_rowW rfl 30 (.tmp 1) rfl C rfl 30 (intsV cA) (0, 0) _ H7.out.2.1 Tryd.underlying30 rfl (by kernel_rfl) ?_))
  go_ret
  exact ⟨rfl, H7.out.2.2.1⟩
end Go.Proofs.YtodlbajpcbdbaaaDoor
namespace Go.Proofs.YtodlbajpcbdbaaaDoor
open Go.RowKit Go.Shelf
set_option linter.unusedVariables false
set_option linter.unusedSimpArgs false
set_option maxRecDepth 100000

theorem goL_err : ∀ (xs : List (List UInt8)) (i : Nat) (c : List Int) (l : List EV) (a b : Int), goL i xs c l = .error (a, b) → b = 12
  | [], i, c, l, a, b, h => by cases i <;> simp [goL] at h
  | x :: r, 0, c, l, a, b, h => by
    rw [goL] at h
    split at h
    · exact goL_err r 1 _ l a b h
    · cases h; rfl
  | x :: r, i + 1, c, l, a, b, h => by
    rw [goL] at h
    split at h
    · exact goL_err r (i + 2) c _ a b h
    · cases h; rfl
theorem parseM_err {t : List UInt8} {a b : Int} (h : parseM t = .error (a, b)) : (b == 0) = false := by
  have key : b = 3 ∨ b = 12 := by
    unfold parseM at h
    split at h
    · cases h; exact .inl rfl
    · unfold endM at h
      split at h
      · rename_i e he
        cases h
        exact .inr (goL_err _ _ _ _ _ _ he)
      · split at h
        · cases h; exact .inr rfl
        · cases h
  rw [beq_eq_false_iff_ne]
  omega
set_option maxRecDepth 100000 in
set_option maxHeartbeats 8000000 in
theorem walk_ScriptAgain (w : World) (s : ByteArray) (hE : Env w) : Calls Tryd.prog 5 #[.string s] w fun e w' => e = .returned (.bool true) ∧ Fr [] w w' := by
  have hA := law28_awake w hE
  have HE := Lib.hid hE
  clear hE
  by_cases hlong : 70000 < s.size
  · have d1 : decide ((70000 : Int) < (s.size : Int)) = true := by simp; omega
    clear hlong
    go_enter Tryd.func5, Tryd.ntmps5
    go_wp2_with fail
    refine hA.mono ?_
    rintro e w1 ⟨rfl, f1⟩
    have H1 := Lib.hid f1
    clear f1
    go_wp2
    go_ret
    exact ⟨rfl, H1.out⟩
  · have d1 : decide ((70000 : Int) < (s.size : Int)) = false := by simp; omega
    have HL := Lib.hid hlong
    clear hlong
    go_enter Tryd.func5, Tryd.ntmps5
    go_wp2_with fail
    refine hA.mono ?_
    rintro e w1 ⟨rfl, f1⟩
    have H1 := Lib.hid f1
    have hps := scr_Parse w1 s (HE.out.fr0 f1) (by have := HL.out; omega)
    clear f1 hA
    go_wp2_with fail
    refine hps.mono ?_
    rintro e w6 ⟨f6, hp6⟩
    clear hps
    have hb6 : Blk (w6.alloc (.cells (intsV zeros17) 30)) w6.heap.size (intsV zeros17) 30 := Blk.new _ _ _
    cases hpm : parseM s.bytes with
    | error ab =>
      obtain ⟨a, b⟩ := ab
      rw [hpm] at hp6
      subst hp6
      have q1 : (b == 0) = false := parseM_err hpm
      have q2 : (b != 0) = true := by simp only [bne, q1]; rfl
      have H6 := Lib.hid (And.intro hb6 (H1.out.tr f6))
      clear hpm f6 hb6 d1
      go_wp2_with (refine wpList_store_row rfl 30 (.tmp 3) (.tmp 17) rfl w6.heap.size (intsV zeros17) rfl rfl 30 (intsV zeros17) H6.out.1 (by kernel_rfl) rfl (intsV_one _) ?_)
      go_ret
      exact ⟨rfl, (H6.out.2.alloc _).setRow _ (.inr H6.out.2.size)⟩
    | ok cl =>
      obtain ⟨c, l⟩ := cl
      rw [hpm] at hp6
      obtain ⟨hc17, sl, rfl, hrow⟩ := hp6
      obtain ⟨hpr, hc, hci, hle⟩ := print_parse hpm
      have H6 := Lib.hid (And.intro hb6 (And.intro (H1.out.tr f6) (And.intro hc (And.intro hpr hrow))))
      have hss : (intsV c).size = 17 := by simp [intsV, hc]
      have hinv := printM_inv hpr
      have HI := Lib.hid (And.intro hci (And.intro hle (And.intro hinv hss)))
      clear hpm f6 hb6 d1 hc17 hpr hrow hc hci hle hinv hss
      go_upto_region 6 with (refine wpList_store_row rfl 30 (.tmp 3) (.tmp 17) rfl w6.heap.size (intsV c) rfl rfl 30 (intsV zeros17) H6.out.1 (by rw [HI.out.2.2.2]; kernel_rfl) (by rw [HI.out.2.2.2]; rfl) (intsV_one _) ?_)
      obtain ⟨w7, hw7⟩ : ∃ w7, (w6.alloc (.cells (intsV zeros17) 30)).setRow w6.heap.size (intsV c) = w7 := ⟨_, rfl⟩
      obtain ⟨D, hD⟩ : ∃ D, w6.heap.size = D := ⟨_, rfl⟩
      have H7 : Hid (Blk w7 D (intsV c) 30 ∧ Fr [] w w7 ∧ ERow 0 0 sl l w7) := Lib.hid (by
        have f7 : Fr [] w6 w7 := by rw [← hw7]; exact ((Fr.refl [] w6).alloc _).setRow _ (.inr (Nat.le_refl _))
        exact ⟨by rw [← hw7, ← hD]; exact H6.out.1.setRow, H6.out.2.1.tr f7, (ERow.fr f7 H6.out.2.2.2.2).low (Nat.zero_le _)⟩)
      rw [show (#[Value.int .i64 0, Value.int .i64 0, Value.int .i64 0, Value.int .i64 0, Value.int .i64 0, Value.int .i64 0, Value.int .i64 0, Value.int .i64 0, Value.int .i64 0, Value.int .i64 0, Value.int .i64 0, Value.int .i64 0, Value.int .i64 0, Value.int .i64 0, Value.int .i64 0, Value.int .i64 0, Value.int .i64 0] : Array Value) = intsV zeros17 from rfl, hw7, hD]
      clear hw7 hD
      have hpt := scr_Print w7 0 sl c l (HE.out.fr0 H7.out.2.1) H6.out.2.2.1 HI.out.1 H7.out.2.2 (Nat.zero_le _) (by have := HI.out.2.2.1.2.1; omega) (fun e he => by
        have := HI.out.2.1 e he
        have h2 : s.bytes.length = s.size := rfl
        have := HL.out
        exact ⟨by omega, (HI.out.2.1 e he).1⟩)
      go_wp2_with (refine wpList_load_row rfl 30 (.tmp 3) rfl D rfl 30 (intsV c) (0, 0) _ H7.out.1 Tryd.underlying30 rfl (by rw [HI.out.2.2.2]; kernel_rfl) ?_)
      refine hpt.mono ?_
      rintro e w8 ⟨hp8, f8⟩
      unfold PrPost at hp8
      rw [H6.out.2.2.2.1] at hp8
      dsimp only at hp8
      rw [show (⟨s.bytes.toArray⟩ : ByteArray) = s from ba_bytes rfl] at hp8
      subst hp8
      have H8 := Lib.hid (H7.out.2.1.tr f8)
      clear hpt f8
      go_wp2
      go_ret
      exact ⟨rfl, H8.out⟩
end Go.Proofs.YtodlbajpcbdbaaaDoor
namespace Go.Proofs.YtodlbajpcbdbaaaDoor
open Go.ChangeShapes Go.WideShapes Go.ChangeAt Go.RowKit
open Go.ChangeMaps (open_string shut_string)
set_option linter.unusedVariables false
set_option linter.unusedSimpArgs false
set_option maxRecDepth 100000

theorem own : ownKnob Tryd.prog.godebug = none := by kernel_rfl
theorem laidOut : laidOutB Tryd.prog = true := by kernel_rfl
def laidL : List (String × DataW Unit) := Rows.scriptAgainRow.laid
theorem gPow : Tryd.prog.globalNamed "internal/strconv.uint64pow10" = some 1 := by kernel_rfl
theorem gSyn : Tryd.prog.globalNamed "strconv.ErrSyntax" = some 4 := by kernel_rfl
theorem gRng : Tryd.prog.globalNamed "strconv.ErrRange" = some 5 := by kernel_rfl
theorem g64 : Tryd.prog.globalNamed "math/bits.deBruijn64tab" = some 7 := by kernel_rfl
theorem starErr : "*" ++ "errors.errorString" = "*errors.errorString" := by decide
theorem rowErr (u : TypeId) (h : Tryd.prog.typeName? 3 u = some "*errors.errorString") : u = 176 :=
  typeName_ptr_named (P := Tryd.prog) (nm := "errors.errorString") (by rw [starErr]; kernel_rfl) (by kernel_rfl) (by decide) u (by rw [starErr]; exact h)
theorem envOf {W : World} (h : laidMetH Tryd.prog laidL W) (hs : W.ShapedOpen Tryd.prog) : Env W := by
  have h0 : laidMet Tryd.prog laidL W := h
  have h1 := h0.tail
  have h2 := h1.tail
  have h4 := h2.tail.tail
  have h5 := h4.tail
  have hp : Lib.TabIs Tryd.prog W "internal/strconv.uint64pow10" .u64 Lib.pow10Tab := Lib.tabIs_of_head (rest := _) gPow (t := 158) (by kernel_rfl) (n := 20) Tryd.underlying158 Tryd.underlying128 (by kernel_rfl) (by kernel_rfl) h2
  obtain ⟨zs, hzs, hz0⟩ : ∃ zs : List Int, (Rows.laid_math_bits_deBruijn64tab : DataW Unit) = Lib.tabData .u8 zs ∧ 0 < zs.length := ⟨[0, 1, 56, 2, 57, 49, 28, 3, 61, 58, 42, 50, 38, 29, 17, 4, 62, 47, 59, 36, 45, 43, 51, 22, 53, 39, 33, 30, 24, 18, 12, 5, 63, 55, 48, 27, 60, 41, 37, 16, 46, 35, 44, 21, 52, 32, 23, 11, 54, 26, 40, 15, 34, 20, 31, 10, 25, 14, 19, 9, 13, 8, 7, 6], by kernel_rfl, by decide⟩
  have h1' : laidMet Tryd.prog (("math/bits.deBruijn64tab", Lib.tabData .u8 zs) :: laidL.tail.tail) W := by rw [← hzs]; exact h1
  have h7 : Lib.TabIs Tryd.prog W "math/bits.deBruijn64tab" .u8 zs := Lib.tabIs_of_head (rest := _) g64 (t := 180) (by kernel_rfl) (n := 64) Tryd.underlying180 Tryd.underlying5 (by kernel_rfl) (by kernel_rfl) h1'
  have hsz : 8 ≤ W.heap.size := by
    have := World.block_lt_of_cell? _ _ (h7.cell g64 0 hz0)
    exact this
  obtain ⟨a4, s4, hv4, -⟩ := laid_sentinel h4 gRng (ti := 92) (by kernel_rfl) Tryd.underlying92 rowErr Tryd.underlying176 Tryd.underlying178 rfl rfl Tryd.underlying9 (by kernel_rfl) (by kernel_rfl)
  obtain ⟨a5, s5, hv5, -⟩ := laid_sentinel h5 gSyn (ti := 92) (by kernel_rfl) Tryd.underlying92 rowErr Tryd.underlying176 Tryd.underlying178 rfl rfl Tryd.underlying9 (by kernel_rfl) (by kernel_rfl)
  refine ⟨fun w' hb => ?_, ?_, ⟨_, by simpa using World.var?_cell gSyn hv5 0, .inr ⟨_, _, rfl⟩⟩, ⟨_, by simpa using World.var?_cell gRng hv4 0, .inr ⟨_, _, rfl⟩⟩, hsz⟩
  · unfold Lib.TabIs World.var? at hp ⊢
    rw [gPow] at hp ⊢
    simp only [Option.bind_some] at hp ⊢
    rw [hb.block 1 (by decide)]
    exact hp
  · exact Go.Proofs.cell_of_shapedOpen_int (zero := #[.int .i64 0]) (t := 3) hs (of_decide_eq_true (by kernel_rfl)) (by kernel_rfl) rfl (by kernel_rfl) (by kernel_rfl) Tryd.underlying3
/-- A datum's cells. -/
def dc : Nat → DataW Unit → List Value
  | 0, _ => []
  | n + 1, .agg ds => ds.flatMap (dc n)
  | _ + 1, .lit (.int k x) => [.int k x]
  | _ + 1, _ => []
def dcells (d : DataW Unit) : Array Value := (dc 4 d).toArray
noncomputable def low : Nat := (World.holding Tryd.prog default ⟨#[], #[], []⟩).heap.size
def putC (cs : Array Value) : Obj → Obj
  | .cells _ t fz => .cells cs t fz
  | o => o
noncomputable def laidWorld (os : Os) : World :=
  let w0 := World.holding Tryd.prog os ⟨#[.cells #[.string ⟨#[105, 110, 118, 97, 108, 105, 100, 32, 115, 121, 110, 116, 97, 120]⟩] 178, .cells #[.string ⟨#[118, 97, 108, 117, 101, 32, 111, 117, 116, 32, 111, 102, 32, 114, 97, 110, 103, 101]⟩] 178], #[], []⟩
  { w0 with heap := ((((((w0.heap.modify 1 (putC (dcells Rows.laid_internal_strconv_uint64pow10))).modify 2 (putC (dcells Rows.laid_unicode_utf8_first))).modify 3 (putC (dcells Rows.laid_unicode_utf8_acceptRanges))).modify 4 (putC #[.iface 176 (.pointer (some ⟨low, 0, none⟩))])).modify 5 (putC #[.iface 176 (.pointer (some ⟨low + 1, 0, none⟩))])).modify 6 (putC (dcells Rows.laid_math_bits_deBruijn32tab))).modify 7 (putC (dcells Rows.laid_math_bits_deBruijn64tab)) }
set_option maxRecDepth 100000 in
theorem laid_met (os : Os) (args : Array Value) : laidMet Tryd.prog laidL ((laidWorld os).forCall (fun _ _ => 0) ⟨#[], args, []⟩).memory :=
  laidMet_of_run' 8 (by kernel_rfl) (by kernel_rfl)
end Go.Proofs.YtodlbajpcbdbaaaDoor
namespace Go.Proofs.YtodlbajpcbdbaaaDoor
open Go.RowKit Go.Shelf
set_option linter.unusedVariables false
set_option linter.unusedSimpArgs false
set_option maxRecDepth 100000

theorem conv_one (w : World) (x : Int) : (convert 53 9 (.slice (some ⟨w.heap.size, 0, none⟩) 1 1)).run Tryd.prog (w.alloc (.cells #[.int .u8 x] 5)) = .ok (.string ⟨#[UInt8.ofNat x.toNat]⟩) (w.alloc (.cells #[.int .u8 x] 5)) := by
  have h := run_convert_bytes_arg (P := Tryd.prog) (w.alloc (.cells #[.int .u8 x] 5)) 53 5 Tryd.underlying53 Tryd.underlying5 w.heap.size 0 1 1 [x] rfl (fun i hi => by
    have : i = 0 := by omega
    subst this
    exact (Blk.new w _ _).cell 0 rfl) 9 Tryd.underlying9
  exact h
theorem decDigits_step {n : Nat} (h : ¬ n < 10) : Lib.decDigits n = Lib.decDigits (n / 10) ++ [UInt8.ofNat (48 + n % 10)] := by rw [Lib.decDigits, dif_neg h]
attribute [local go_sem] conv_one
theorem str_cons (x : UInt8) (l : List UInt8) : (⟨#[x]⟩ : ByteArray) ++ ⟨l.toArray⟩ = ⟨(x :: l).toArray⟩ := by
  apply ByteArray.ext
  simp [ByteArray.data_append]
theorem UInt8_48 (k : Nat) : UInt8.ofNat (48 + k) = 48 + UInt8.ofNat k := by simp
set_option maxHeartbeats 2000000 in
theorem r28_Dec (w : World) (n : Nat) (hn : n < 18446744073709551616) : Calls Tryd.prog 55 #[.int .u64 (n : Int)] w fun e w' => e = .returned (.string ⟨(Lib.decDigits n).toArray⟩) ∧ Fr [] w w' := by
  have HN := Lib.hid hn
  go_enter Tryd.func55, Tryd.ntmps55
  go_wp2
  go_loopw [0, 3] (fun a s wr => ∃ (k : Nat) (l : List UInt8), a = .int .u64 (k : Int) ∧ s = .string ⟨l.toArray⟩ ∧ k ≤ n ∧ l.length ≤ 20 ∧ Lib.decDigits k ++ l = Lib.decDigits n ∧ Fr [] w wr) (fun a _ _ => (intOf a).toNat)
  case atStart => exact ⟨n, [], rfl, rfl, by omega, by simp, by simp, Fr.refl _ _⟩
  case round =>
    obtain ⟨k, l, rfl, rfl, hk, hl, hd, hf⟩ := hrel
    have HK := Lib.hid (And.intro hd hf)
    clear hd hf
    by_cases h10 : k < 10
    · have q : ((k : Int) / 10 == 0) = true := by simp; omega
      go_wp2
      go_ret
      refine ⟨?_, HK.out.2.alloc _⟩
      rw [← UInt8_48, str_cons, ← HK.out.1, Lib.decDigits_one h10, Nat.mod_eq_of_lt h10]
      rfl
    · have q : ((k : Int) / 10 == 0) = false := by simp; omega
      have hd2 := HK.out.1
      rw [decDigits_step h10, List.append_assoc, List.singleton_append] at hd2
      have hlen := congrArg List.length hd2
      rw [List.length_append, Lib.decDigits_length, Lib.decDigits_length] at hlen
      have h20 := Lib.nDigits_le20 n hn
      have HD := Lib.hid (And.intro hd2 (And.intro hlen h20))
      clear hd2 hlen h20
      go_wp2
      go_roundw
      case rel => exact ⟨k / 10, UInt8.ofNat (48 + k % 10) :: l, by simp, by rw [← UInt8_48, str_cons], by omega, by obtain ⟨h1, h2, h3⟩ := HD.out; omega, HD.out.1, HK.out.2.alloc _⟩
      case measure => simp [intOf]; omega
theorem itoa_pos {n : Int} (h : 0 ≤ n) : Lib.itoa n = Lib.decDigits n.toNat := by unfold Lib.itoa; rw [if_neg (by omega)]
theorem itoa_neg' {n : Int} (h : n < 0) : Lib.itoa n = 45 :: Lib.decDigits n.natAbs := by unfold Lib.itoa; rw [if_pos h]
theorem r28_Int (w : World) (n : Int) (hn : In64 n) : Calls Tryd.prog 37 #[.int .i64 n] w fun e w' => e = .returned (.string ⟨(Lib.itoa n).toArray⟩) ∧ Fr [] w w' := by
  by_cases h : n < 0
  · obtain ⟨m, hm⟩ : ∃ m : Nat, n.natAbs = m := ⟨_, rfl⟩
    have d : decide (n < 0) = true := by simpa using h
    have HI := Lib.hid (And.intro h hm)
    have HN := Lib.hid hn
    have w1 : IntKind.i64.wrap (n + 1) = n + 1 := IntWalk.i64_in _ (by have := hn.1; omega)
    have w2 : IntKind.i64.wrap (-(n + 1)) = -(n + 1) := IntWalk.i64_in _ (by have := hn.1; omega)
    have w3 : IntKind.u64.wrap (-(n + 1)) = -(n + 1) := IntWalk.u64_in _ (by have := hn.1; omega)
    have w4 : IntKind.u64.wrap (-(n + 1) + 1) = (m : Int) := by rw [IntWalk.u64_in _ (by have := hn.1; omega)]; omega
    have hc := fun w => r28_Dec w m (by have := hn.1; omega)
    have hz : (Lib.decDigits m).length ≤ 20 := by rw [Lib.decDigits_length]; exact Lib.nDigits_le20 m (by have := hn.1; omega)
    clear h hm hn
    go_enter Tryd.func37, Tryd.ntmps37
    go_wp2_with fail
    refine (hc _).mono ?_
    rintro e w1 ⟨rfl, f1⟩
    have H1 := Lib.hid f1
    clear f1 hc
    go_wp2
    go_ret
    exact ⟨by rw [itoa_neg' HI.out.1, HI.out.2]; rfl, H1.out⟩
  · obtain ⟨m, rfl⟩ : ∃ m : Nat, n = m := ⟨n.toNat, by omega⟩
    have d : decide ((m : Int) < 0) = false := by simp
    have w3 : IntKind.u64.wrap (m : Int) = (m : Int) := IntWalk.u64_in _ (by have := hn.2; omega)
    have hc := fun w => r28_Dec w m (by have := hn.2; omega)
    clear h hn
    go_enter Tryd.func37, Tryd.ntmps37
    go_wp2_with fail
    refine (hc _).mono ?_
    rintro e w1 ⟨rfl, f1⟩
    have H1 := Lib.hid f1
    clear f1 hc
    go_wp2
    go_ret
    exact ⟨by rw [itoa_pos (by omega)]; rfl, H1.out⟩
end Go.Proofs.YtodlbajpcbdbaaaDoor
namespace Go.Proofs.YtodlbajpcbdbaaaDoor
open Go.RowKit Go.Shelf
set_option linter.unusedVariables false
set_option linter.unusedSimpArgs false
set_option maxRecDepth 100000

def val (cs : List UInt8) : Nat := cs.foldl (fun n c => n * 10 + (c.toNat - 48)) 0
theorem val_snoc (cs : List UInt8) (c : UInt8) : val (cs ++ [c]) = val cs * 10 + (c.toNat - 48) := by simp [val, List.foldl_append]
def digB (c : UInt8) : Prop := 48 ≤ c.toNat ∧ c.toNat ≤ 57
theorem val_dec (u : Nat) : val (Lib.decDigits u) = u := by
  induction u using Nat.strongRecOn with
  | _ u ih =>
    rw [Lib.decDigits]
    split
    · rename_i h
      simp only [val, List.foldl_cons, List.foldl_nil, UInt8.toNat_ofNat']
      omega
    · rename_i h
      rw [val_snoc, ih (u / 10) (by omega), UInt8.toNat_ofNat']
      omega
theorem val_pre (u : Nat) : ∀ k, k < (Lib.decDigits u).length → val ((Lib.decDigits u).take k) ≤ u / 10 := by
  induction u using Nat.strongRecOn with
  | _ u ih =>
    intro k hk
    by_cases h : u < 10
    · rw [Lib.decDigits_one h] at hk ⊢
      have : k = 0 := by simp at hk; omega
      subst this
      simp [val]
    · rw [decDigits_step h] at hk ⊢
      rw [List.length_append, List.length_cons, List.length_nil] at hk
      rw [List.take_append_of_le_length (by omega)]
      by_cases hk2 : k < (Lib.decDigits (u / 10)).length
      · have := ih (u / 10) (by omega) k hk2
        omega
      · rw [List.take_of_length_le (by omega), val_dec]
        exact Nat.le_refl _
theorem nDigits_pow : ∀ (k u : Nat), 1 ≤ k → u < 10 ^ k → Lib.nDigits u ≤ k
  | 0, u, h, _ => by omega
  | k + 1, u, _, h => by
    rw [Lib.nDigits]
    split
    · omega
    · rename_i h10
      have hk : 1 ≤ k := by
        rcases Nat.eq_zero_or_pos k with h0 | h0
        · subst h0; simp at h; omega
        · exact h0
      have := nDigits_pow k (u / 10) hk (by rw [Nat.pow_succ] at h; omega)
      omega
/-- The sign's place. -/
def sgn (l : List UInt8) (I : Nat) : Prop := (I = 1 ∧ l.head? = some 45) ∨ (I = 0 ∧ l.head? ≠ some 45)
theorem num_some {l : List UInt8} {v : Int} (h : numM l = some v) (I : Nat) (hI : sgn l I) :
    l.length ≤ 20 ∧ (∀ k, I ≤ k → ∀ hk : k < l.length, digB l[k] ∧ val ((l.drop I).take (k - I)) ≤ 922337203685477580) ∧ val (l.drop I) = v.natAbs ∧ (I = 1 ↔ v < 0) ∧ I ≤ 1 := by
  have hr := numM_range h
  have hl := itoa_numM h
  have key : ∀ u : Nat, u ≤ 9223372036854775808 → (Lib.decDigits u).length ≤ 19 ∧ (∀ k, ∀ hk : k < (Lib.decDigits u).length, digB (Lib.decDigits u)[k] ∧ val ((Lib.decDigits u).take k) ≤ 922337203685477580) := fun u hu => by
    refine ⟨by rw [Lib.decDigits_length]; exact nDigits_pow 19 u (by omega) (by omega), fun k hk => ⟨?_, ?_⟩⟩
    · exact decDigits_dig u _ (List.getElem_mem hk)
    · have := val_pre u k hk
      omega
  by_cases hv : v < 0
  · have e : l = 45 :: Lib.decDigits v.natAbs := by rw [← hl, itoa_neg' hv]
    obtain ⟨k1, k2⟩ := key v.natAbs (by omega)
    have hI1 : I = 1 := by
      rcases hI with ⟨h1, _⟩ | ⟨_, h2⟩
      · exact h1
      · rw [e] at h2; simp at h2
    subst hI1
    subst e
    refine ⟨by simp; omega, fun k hk1 hk => ?_, by simp [val_dec], by simp [hv], by omega⟩
    obtain ⟨j, rfl⟩ : ∃ j, k = j + 1 := ⟨k - 1, by omega⟩
    have := k2 j (by simpa using hk)
    simpa using this
  · have e : l = Lib.decDigits v.natAbs := by rw [← hl, itoa_pos (by omega)]; congr 1; omega
    obtain ⟨k1, k2⟩ := key v.natAbs (by omega)
    have hI0 : I = 0 := by
      rcases hI with ⟨_, h2⟩ | ⟨h1, _⟩
      · exfalso
        rw [e] at h2
        have := decDigits_dig v.natAbs 45 (List.mem_of_mem_head? h2)
        simp at this
      · exact h1
    subst hI0
    subst e
    refine ⟨by omega, fun k hk1 hk => ?_, by simp [val_dec], by omega, by omega⟩
    have := k2 k hk
    simpa using this
def xOf (I n : Nat) : Int := if I = 1 then IntKind.i64.wrap (-(IntKind.i64.wrap (n : Int))) else IntKind.i64.wrap (n : Int)
theorem wrap_in (x : Int) : In64 (IntKind.i64.wrap x) := by rw [IntKind.wrap_i64]; constructor <;> omega
theorem xOf_v {I : Nat} (v : Int) (h : (I = 1 ↔ v < 0) ∧ I ≤ 1) (hr : -9223372036854775808 ≤ v ∧ v ≤ 9223372036854775807) : xOf I v.natAbs = v := by
  unfold xOf
  rw [IntKind.wrap_i64, IntKind.wrap_i64]
  split
  · rename_i h1
    have := h.1.1 h1
    omega
  · rename_i h1
    have : ¬ v < 0 := fun hv => h1 (h.1.2 hv)
    omega
def NumPost (l : List UInt8) (e : Ending) : Prop := match numM l with
  | some v => e = .returned (.tuple #[.int .i64 v, .bool true])
  | none => e = .returned (.tuple #[.int .i64 0, .bool false])
theorem NumPost.no {l : List UInt8} (h : numM l = none) : NumPost l (.returned (.tuple #[.int .i64 0, .bool false])) := by unfold NumPost; rw [h]
theorem NumPost.yes {l : List UInt8} {v : Int} (h : numM l = some v) : NumPost l (.returned (.tuple #[.int .i64 v, .bool true])) := by unfold NumPost; rw [h]
set_option maxHeartbeats 8000000 in
theorem r28_number (w : World) (s : ByteArray) : Calls Tryd.prog 46 #[.string s] w fun e w' => NumPost s.bytes e ∧ Fr [] w w' := by
  by_cases h0 : s.size = 0
  · have z0 : ((s.size : Int) == 0) = true := by rw [beq_iff_eq]; omega
    have HN : Hid (numM s.bytes = none) := Lib.hid (by
      have h1 : s.bytes.length = s.size := rfl
      have : s.bytes = [] := List.eq_nil_of_length_eq_zero (by omega)
      rw [this]; rfl)
    clear h0
    go_enter Tryd.func46, Tryd.ntmps46
    go_wp2
    go_ret2
    exact ⟨NumPost.no HN.out, Fr.refl _ _⟩
  · have z0 : ((s.size : Int) == 0) = false := by rw [beq_eq_false_iff_ne]; omega
    have hd : sgn s.bytes 1 ∨ sgn s.bytes 0 := by
      by_cases h : s.bytes.head? = some 45
      · exact .inl (.inl ⟨rfl, h⟩)
      · exact .inr (.inr ⟨rfl, h⟩)
    by_cases h20 : 20 < s.size
    · have z20 : decide ((20 : Int) < (s.size : Int)) = true := by simp; omega
      have HN : Hid (numM s.bytes = none) := Lib.hid (by
        cases hm : numM s.bytes with
        | none => rfl
        | some v =>
          have h1 : s.bytes.length = s.size := rfl
          rcases hd with hd | hd
          · have := (num_some hm 1 hd).1; omega
          · have := (num_some hm 0 hd).1; omega)
      clear h0 h20 hd
      go_enter Tryd.func46, Tryd.ntmps46
      go_wp2
      go_ret2
      exact ⟨NumPost.no HN.out, Fr.refl _ _⟩
    · have z20 : decide ((20 : Int) < (s.size : Int)) = false := by simp; omega
      have hs0 : 0 < s.size := by omega
      have hh : s.bytes.head? = some s[0] := by
        have : s.bytes.head? = s.bytes[0]? := by rw [List.head?_eq_getElem?]
        rw [this, List.getElem?_eq_getElem (show 0 < s.bytes.length from hs0)]
        rfl
      have hs20 : s.size ≤ 20 := by omega
      clear h0 h20 hd
      by_cases h : s[0] = 45
      · have h45 : ((s[0].toNat : Int) == 45) = true := by rw [h]; rfl
        have HI : Hid (sgn s.bytes 1) := Lib.hid (.inl ⟨rfl, by rw [hh, h]⟩)
        clear h hh
        go_enter Tryd.func46, Tryd.ntmps46
        go_wp2
        clear z0 z20 h45
        go_loopw [4, 6] (fun a i wr => ∃ (k n : Nat), a = .int .u64 (n : Int) ∧ i = .int .i64 (k : Int) ∧ 1 ≤ k ∧ k ≤ s.size ∧ n = val ((s.bytes.drop 1).take (k - 1)) ∧ n ≤ 9223372036854775809 ∧ Fr [] w wr) (fun _ i _ => s.size - (intOf i).toNat)
        case atStart => exact ⟨1, 0, rfl, rfl, by omega, by omega, by simp [val], by omega, Fr.refl _ _⟩
        case round =>
          obtain ⟨k, n, rfl, rfl, hIk, hk, hn, hn9, hf⟩ := hrel
          have HK := Lib.hid (And.intro hn hf)
          clear hn hf
          by_cases hlt : k < s.size
          · have d1 : (k : Int) < (s.size : Int) := by omega
            obtain ⟨x, hx⟩ : ∃ x, s[k].toNat = x := ⟨_, rfl⟩
            have hxb : (s.bytes[k]'hlt).toNat = x := hx
            have hx256 : x < 256 := by rw [← hx]; exact s[k].toNat_lt
            have HX := Lib.hid hxb
            clear hxb
            have bad : ((x < 48 ∨ 57 < x) ∨ 922337203685477580 < n) → numM s.bytes = none := fun hb => by
              cases hm : numM s.bytes with
              | none => rfl
              | some v =>
                obtain ⟨_, h2, _⟩ := num_some hm 1 HI.out
                obtain ⟨h3, h4⟩ := h2 k hIk hlt
                have e1 := HX.out
                have e2 := HK.out.1
                unfold digB at h3
                rw [← e2] at h4
                omega
            by_cases h1 : x < 48
            · have q1 : (x : Int) < 48 := by omega
              have HB := Lib.hid (bad (.inl (.inl h1)))
              clear bad h1
              go_wp2
              go_ret2
              exact ⟨NumPost.no HB.out, HK.out.2⟩
            · have q1 : ¬ (x : Int) < 48 := by omega
              by_cases h2 : 57 < x
              · have q2 : (57 : Int) < x := by omega
                have HB := Lib.hid (bad (.inl (.inr h2)))
                clear bad h1 h2
                go_wp2
                go_ret2
                exact ⟨NumPost.no HB.out, HK.out.2⟩
              · have q2 : ¬ (57 : Int) < x := by omega
                by_cases h3 : 922337203685477580 < n
                · have q3 : decide ((922337203685477580 : Int) < n) = true := by simp; omega
                  have HB := Lib.hid (bad (.inr h3))
                  clear bad h1 h2 h3
                  go_wp2
                  go_ret2
                  exact ⟨NumPost.no HB.out, HK.out.2⟩
                · have q3 : decide ((922337203685477580 : Int) < n) = false := by simp; omega
                  have w1 : IntKind.u64.wrap ((n : Int) * 10) = (n : Int) * 10 := IntWalk.u64_in _ (by omega)
                  have w2 : IntKind.u8.wrap ((x : Int) - 48) = (x : Int) - 48 := IntWalk.u8_in _ (by omega)
                  have w3 : IntKind.u64.wrap ((x : Int) - 48) = (x : Int) - 48 := IntWalk.u64_in _ (by omega)
                  have w4 : IntKind.u64.wrap ((n : Int) * 10 + ((x : Int) - 48)) = (n : Int) * 10 + ((x : Int) - 48) := IntWalk.u64_in _ (by omega)
                  have wq : IntKind.i64.wrap ((k : Int) + 1) = (k : Int) + 1 := IntWalk.i64_in _ (by omega)
                  have HN : Hid (n * 10 + (x - 48) = val ((s.bytes.drop 1).take (k + 1 - 1))) := Lib.hid (by
                    have e : k + 1 - 1 = (k - 1) + 1 := by omega
                    have hl : k - 1 < (s.bytes.drop 1).length := by rw [List.length_drop]; have h2 : s.bytes.length = s.size := rfl; omega
                    rw [e, List.take_succ_eq_append_getElem hl, val_snoc, ← HK.out.1, List.getElem_drop]
                    simp only [show 1 + (k - 1) = k by omega]
                    have e9 := HX.out
                    omega)
                  clear bad h1 h2
                  go_wp2
                  go_roundw
                  case rel => exact ⟨k + 1, n * 10 + (x - 48), by congr 1; omega, by go_num, by omega, by omega, HN.out, by omega, HK.out.2⟩
                  case measure => simp [intOf]; omega
          · have hke : k = s.size := by omega
            have HN : Hid (n = val (s.bytes.drop 1)) := Lib.hid (by
              have h2 : s.bytes.length = s.size := rfl
              rw [HK.out.1, List.take_of_length_le (by rw [List.length_drop]; omega)])
            obtain ⟨y, hy⟩ : ∃ y, IntKind.i64.wrap (n : Int) = y := ⟨_, rfl⟩
            obtain ⟨z, hz'⟩ : ∃ z, IntKind.i64.wrap (-y) = z := ⟨_, rfl⟩
            have hz : In64 z := by rw [← hz']; exact wrap_in _
            have HZ : Hid (z = xOf 1 n) := Lib.hid (by rw [← hz', ← hy]; rfl)
            have hin := fun w => r28_Int w z hz
            by_cases he : Lib.itoa z = s.bytes
            · have c1 : (Lib.itoa z == s.toList) = true := by rw [ByteArray.toList_eq]; exact beq_iff_eq.2 he
              have c2 : (Lib.itoa z != s.toList) = false := by simp only [bne, c1]; rfl
              have HM : Hid (numM s.bytes = some z) := Lib.hid (by rw [← he]; exact numM_itoa z hz.1 hz.2)
              clear he
              go_wp2_with fail
              refine (hin _).mono ?_
              rintro e w5 ⟨rfl, f5⟩
              have HF := Lib.hid (HK.out.2.tr f5)
              clear f5 hin
              go_wp2
              go_ret2
              exact ⟨NumPost.yes HM.out, HF.out⟩
            · have c1 : (Lib.itoa z == s.toList) = false := by rw [beq_eq_false_iff_ne, ByteArray.toList_eq]; exact he
              have c2 : (Lib.itoa z != s.toList) = true := by simp only [bne, c1]; rfl
              have HM : Hid (numM s.bytes = none) := Lib.hid (by
                cases hm : numM s.bytes with
                | none => rfl
                | some v =>
                  exfalso
                  obtain ⟨h1, _, h3, h4⟩ := num_some hm 1 HI.out
                  have : z = v := by rw [HZ.out, HN.out, h3]; exact xOf_v v h4 (numM_range hm)
                  rw [this] at he
                  exact he (itoa_numM hm))
              clear he
              go_wp2_with fail
              refine (hin _).mono ?_
              rintro e w5 ⟨rfl, f5⟩
              have HF := Lib.hid (HK.out.2.tr f5)
              clear f5 hin
              go_wp2
              go_ret2
              exact ⟨NumPost.no HM.out, HF.out⟩
      · have h45 : ((s[0].toNat : Int) == 45) = false := by
          rw [beq_eq_false_iff_ne]
          intro e
          apply h
          apply UInt8.toNat_inj.1
          have : s[0].toNat = 45 := by omega
          rw [this]; rfl
        have HI : Hid (sgn s.bytes 0) := Lib.hid (.inr ⟨rfl, by rw [hh]; simpa using h⟩)
        clear h hh
        go_enter Tryd.func46, Tryd.ntmps46
        go_wp2
        clear z0 z20 h45
        go_loopw [4, 6] (fun a i wr => ∃ (k n : Nat), a = .int .u64 (n : Int) ∧ i = .int .i64 (k : Int) ∧ 0 ≤ k ∧ k ≤ s.size ∧ n = val ((s.bytes.drop 0).take (k - 0)) ∧ n ≤ 9223372036854775809 ∧ Fr [] w wr) (fun _ i _ => s.size - (intOf i).toNat)
        case atStart => exact ⟨0, 0, rfl, rfl, by omega, by omega, by simp [val], by omega, Fr.refl _ _⟩
        case round =>
          obtain ⟨k, n, rfl, rfl, hIk, hk, hn, hn9, hf⟩ := hrel
          have HK := Lib.hid (And.intro hn hf)
          clear hn hf
          by_cases hlt : k < s.size
          · have d1 : (k : Int) < (s.size : Int) := by omega
            obtain ⟨x, hx⟩ : ∃ x, s[k].toNat = x := ⟨_, rfl⟩
            have hxb : (s.bytes[k]'hlt).toNat = x := hx
            have hx256 : x < 256 := by rw [← hx]; exact s[k].toNat_lt
            have HX := Lib.hid hxb
            clear hxb
            have bad : ((x < 48 ∨ 57 < x) ∨ 922337203685477580 < n) → numM s.bytes = none := fun hb => by
              cases hm : numM s.bytes with
              | none => rfl
              | some v =>
                obtain ⟨_, h2, _⟩ := num_some hm 0 HI.out
                obtain ⟨h3, h4⟩ := h2 k hIk hlt
                have e1 := HX.out
                have e2 := HK.out.1
                unfold digB at h3
                rw [← e2] at h4
                omega
            by_cases h1 : x < 48
            · have q1 : (x : Int) < 48 := by omega
              have HB := Lib.hid (bad (.inl (.inl h1)))
              clear bad h1
              go_wp2
              go_ret2
              exact ⟨NumPost.no HB.out, HK.out.2⟩
            · have q1 : ¬ (x : Int) < 48 := by omega
              by_cases h2 : 57 < x
              · have q2 : (57 : Int) < x := by omega
                have HB := Lib.hid (bad (.inl (.inr h2)))
                clear bad h1 h2
                go_wp2
                go_ret2
                exact ⟨NumPost.no HB.out, HK.out.2⟩
              · have q2 : ¬ (57 : Int) < x := by omega
                by_cases h3 : 922337203685477580 < n
                · have q3 : decide ((922337203685477580 : Int) < n) = true := by simp; omega
                  have HB := Lib.hid (bad (.inr h3))
                  clear bad h1 h2 h3
                  go_wp2
                  go_ret2
                  exact ⟨NumPost.no HB.out, HK.out.2⟩
                · have q3 : decide ((922337203685477580 : Int) < n) = false := by simp; omega
                  have w1 : IntKind.u64.wrap ((n : Int) * 10) = (n : Int) * 10 := IntWalk.u64_in _ (by omega)
                  have w2 : IntKind.u8.wrap ((x : Int) - 48) = (x : Int) - 48 := IntWalk.u8_in _ (by omega)
                  have w3 : IntKind.u64.wrap ((x : Int) - 48) = (x : Int) - 48 := IntWalk.u64_in _ (by omega)
                  have w4 : IntKind.u64.wrap ((n : Int) * 10 + ((x : Int) - 48)) = (n : Int) * 10 + ((x : Int) - 48) := IntWalk.u64_in _ (by omega)
                  have wq : IntKind.i64.wrap ((k : Int) + 1) = (k : Int) + 1 := IntWalk.i64_in _ (by omega)
                  have HN : Hid (n * 10 + (x - 48) = val ((s.bytes.drop 0).take (k + 1 - 0))) := Lib.hid (by
                    have e : k + 1 - 0 = (k - 0) + 1 := by omega
                    have hl : k - 0 < (s.bytes.drop 0).length := by rw [List.length_drop]; have h2 : s.bytes.length = s.size := rfl; omega
                    rw [e, List.take_succ_eq_append_getElem hl, val_snoc, ← HK.out.1, List.getElem_drop]
                    simp only [show 0 + (k - 0) = k by omega]
                    have e9 := HX.out
                    omega)
                  clear bad h1 h2
                  go_wp2
                  go_roundw
                  case rel => exact ⟨k + 1, n * 10 + (x - 48), by congr 1; omega, by go_num, by omega, by omega, HN.out, by omega, HK.out.2⟩
                  case measure => simp [intOf]; omega
          · have hke : k = s.size := by omega
            have HN : Hid (n = val (s.bytes.drop 0)) := Lib.hid (by
              have h2 : s.bytes.length = s.size := rfl
              rw [HK.out.1, List.take_of_length_le (by rw [List.length_drop]; omega)])
            obtain ⟨y, hy⟩ : ∃ y, IntKind.i64.wrap (n : Int) = y := ⟨_, rfl⟩
            obtain ⟨z, rfl⟩ : ∃ z, z = y := ⟨_, rfl⟩
            have hz : In64 z := by rw [← hy]; exact wrap_in _
            have HZ : Hid (z = xOf 0 n) := Lib.hid (by rw [← hy]; rfl)
            have hin := fun w => r28_Int w z hz
            by_cases he : Lib.itoa z = s.bytes
            · have c1 : (Lib.itoa z == s.toList) = true := by rw [ByteArray.toList_eq]; exact beq_iff_eq.2 he
              have c2 : (Lib.itoa z != s.toList) = false := by simp only [bne, c1]; rfl
              have HM : Hid (numM s.bytes = some z) := Lib.hid (by rw [← he]; exact numM_itoa z hz.1 hz.2)
              clear he
              go_wp2_with fail
              refine (hin _).mono ?_
              rintro e w5 ⟨rfl, f5⟩
              have HF := Lib.hid (HK.out.2.tr f5)
              clear f5 hin
              go_wp2
              go_ret2
              exact ⟨NumPost.yes HM.out, HF.out⟩
            · have c1 : (Lib.itoa z == s.toList) = false := by rw [beq_eq_false_iff_ne, ByteArray.toList_eq]; exact he
              have c2 : (Lib.itoa z != s.toList) = true := by simp only [bne, c1]; rfl
              have HM : Hid (numM s.bytes = none) := Lib.hid (by
                cases hm : numM s.bytes with
                | none => rfl
                | some v =>
                  exfalso
                  obtain ⟨h1, _, h3, h4⟩ := num_some hm 0 HI.out
                  have : z = v := by rw [HZ.out, HN.out, h3]; exact xOf_v v h4 (numM_range hm)
                  rw [this] at he
                  exact he (itoa_numM hm))
              clear he
              go_wp2_with fail
              refine (hin _).mono ?_
              rintro e w5 ⟨rfl, f5⟩
              have HF := Lib.hid (HK.out.2.tr f5)
              clear f5 hin
              go_wp2
              go_ret2
              exact ⟨NumPost.no HM.out, HF.out⟩
def digM (c : UInt8) : Int := if 48 ≤ c.toNat ∧ c.toNat ≤ 57 then (c.toNat : Int) - 48 else if 97 ≤ c.toNat ∧ c.toNat ≤ 102 then (c.toNat : Int) - 87 else -1
theorem dig_fin : ∀ i : Fin 256, digM (UInt8.ofNat i.val) = hexI (UInt8.ofNat i.val) := by decide +kernel
theorem dig_hex (c : UInt8) : digM c = hexI c := by
  have := dig_fin ⟨c.toNat, c.toNat_lt⟩
  simpa using this
theorem r28_digit (w : World) (c : UInt8) : Calls Tryd.prog 76 #[.int .u8 (c.toNat : Int)] w fun e w' => e = .returned (.int .i64 (hexI c)) ∧ w' = w := by
  have HH := Lib.hid (dig_hex c)
  unfold digM at HH
  obtain ⟨x, hx⟩ : ∃ x, c.toNat = x := ⟨_, rfl⟩
  rw [hx] at HH ⊢
  have hx2 : x < 256 := by rw [← hx]; exact c.toNat_lt
  clear hx
  generalize hexI c = v at HH ⊢
  by_cases h1 : x < 48
  · have q1 : ¬ (48 : Int) ≤ x := by omega
    have q2 : ¬ (97 : Int) ≤ x := by omega
    have HV : Hid (v = -1) := Lib.hid (by rw [← HH.out, if_neg (by omega), if_neg (by omega)])
    go_enter Tryd.func76, Tryd.ntmps76
    go_wp2
    go_ret
    exact ⟨by rw [HV.out]; rfl, rfl⟩
  · have q1 : (48 : Int) ≤ x := by omega
    by_cases h2 : x ≤ 57
    · have q2 : (x : Int) ≤ 57 := by omega
      have w1 : IntKind.u8.wrap ((x : Int) - 48) = (x : Int) - 48 := IntWalk.u8_in _ (by omega)
      have w2 : IntKind.i64.wrap ((x : Int) - 48) = (x : Int) - 48 := IntWalk.i64_in _ (by omega)
      have HV : Hid (v = (x : Int) - 48) := Lib.hid (by rw [← HH.out, if_pos (by omega)])
      go_enter Tryd.func76, Tryd.ntmps76
      go_wp2
      go_ret
      exact ⟨by rw [HV.out]; rfl, rfl⟩
    · have q2 : ¬ (x : Int) ≤ 57 := by omega
      by_cases h3 : x < 97
      · have q3 : ¬ (97 : Int) ≤ x := by omega
        have HV : Hid (v = -1) := Lib.hid (by rw [← HH.out, if_neg (by omega), if_neg (by omega)])
        go_enter Tryd.func76, Tryd.ntmps76
        go_wp2
        go_ret
        exact ⟨by rw [HV.out]; rfl, rfl⟩
      · have q3 : (97 : Int) ≤ x := by omega
        by_cases h4 : x ≤ 102
        · have q4 : (x : Int) ≤ 102 := by omega
          have w1 : IntKind.u8.wrap ((x : Int) - 97) = (x : Int) - 97 := IntWalk.u8_in _ (by omega)
          have w2 : IntKind.i64.wrap ((x : Int) - 97) = (x : Int) - 97 := IntWalk.i64_in _ (by omega)
          have w3 : IntKind.i64.wrap ((x : Int) - 97 + 10) = (x : Int) - 87 := by rw [IntWalk.i64_in _ (by omega)]; omega
          have HV : Hid (v = (x : Int) - 87) := Lib.hid (by rw [← HH.out, if_neg (by omega), if_pos (by omega)])
          go_enter Tryd.func76, Tryd.ntmps76
          go_wp2
          go_ret
          exact ⟨by rw [HV.out]; rfl, rfl⟩
        · have q4 : ¬ (x : Int) ≤ 102 := by omega
          have HV : Hid (v = -1) := Lib.hid (by rw [← HH.out, if_neg (by omega), if_neg (by omega)])
          go_enter Tryd.func76, Tryd.ntmps76
          go_wp2
          go_ret
          exact ⟨by rw [HV.out]; rfl, rfl⟩
end Go.Proofs.YtodlbajpcbdbaaaDoor
namespace Go.Proofs.YtodlbajpcbdbaaaDoor
open Go.RowKit Go.Shelf
set_option linter.unusedVariables false
set_option linter.unusedSimpArgs false
set_option maxRecDepth 100000

set_option maxRecDepth 100000 in
set_option maxHeartbeats 8000000 in
theorem r28_words (w : World) (s : ByteArray) (hs : s.size ≤ 2000000) : Calls Tryd.prog 45 #[.string s] w fun e w' => (∃ sl : Sl, e = .returned (.slice sl.A sl.n sl.c) ∧ w'.ownsRow w.heap.size 9 1 sl.v (splitc 32 s.bytes).length ((splitc 32 s.bytes).map sv)) ∧ Fr [] w w' := by
  obtain ⟨i0, hi0, hz0, hz1, hz2⟩ := info_parts (show (Tryd.prog.info? 9).map (fun i => (i.zero, i.size, i.bytes)) = some (some (.string ByteArray.empty), 1, 16) by kernel_rfl)
  have hun : Tryd.prog.underlying 60 = some (.slice 9) := Tryd.underlying60
  have hzz : s.bytes.length = s.size := rfl
  go_enter Tryd.func45, Tryd.ntmps45
  go_wp2
  go_loopw [3, 4, 5] (fun o a i wr => ∃ (q f : Nat) (L : List (List UInt8)) (sl : Sl), o = .slice sl.A sl.n sl.c ∧ a = .int .i64 (f : Int) ∧ i = .int .i64 (q : Int) ∧ f ≤ q ∧ q ≤ s.size ∧ L.length ≤ q ∧ wr.ownsRow w.heap.size 9 1 sl.v L.length (L.map sv) ∧ splitc 32 s.bytes = L ++ splitc 32 (s.bytes.drop f) ∧ (32 : UInt8) ∉ (s.bytes.drop f).take (q - f) ∧ Fr [] w wr) (fun _ _ i _ => s.size - (intOf i).toNat)
  case atStart => exact ⟨0, 0, [], Sl.nil, rfl, rfl, rfl, by omega, by omega, by simp, World.ownsRow_nil _ _ _ _, by simp, by simp, Fr.refl _ _⟩
  case round =>
    obtain ⟨q, f, L, sl, rfl, rfl, rfl, hfq, hq, hL, hown, hsp, hno, hf⟩ := hrel
    have HK := Lib.hid (And.intro hown (And.intro hsp (And.intro hno hf)))
    clear hown hsp hno hf
    by_cases hlt : q < s.size
    · have d1 : (q : Int) < (s.size : Int) := by omega
      have wq : IntKind.i64.wrap ((q : Int) + 1) = (q : Int) + 1 := IntWalk.i64_in _ (by omega)
      have hdl : (s.bytes.drop f).length = s.size - f := by rw [List.length_drop, hzz]
      have hat : (s.bytes.drop f)[q - f]? = some s[q] := by
        rw [List.getElem?_drop, show f + (q - f) = q by omega, List.getElem?_eq_getElem (show q < s.bytes.length by omega)]
        rfl
      by_cases hc : s[q] = 32
      · have qa : ((s[q].toNat : Int) == 32) = true := by rw [hc]; rfl
        obtain ⟨p, hp⟩ : ∃ p, s.extract f q = p := ⟨_, rfl⟩
        have hpb : p.bytes = (s.bytes.drop f).take (q - f) := by
          rw [← hp]
          show (s.extract f q).data.toList = _
          rw [Lib.extract_data]
          rfl
        have hsd : s.bytes.drop f = (s.bytes.drop f).take (q - f) ++ 32 :: s.bytes.drop (q + 1) := by
          rw [hc] at hat
          obtain ⟨h1, h2⟩ := List.getElem?_eq_some_iff.1 hat
          conv => lhs; rw [← List.take_append_drop (q - f) (s.bytes.drop f)]
          rw [List.drop_eq_getElem_cons h1, h2, List.drop_drop, show f + (q - f + 1) = q + 1 by omega]
        have HX : Hid (splitc 32 s.bytes = (L ++ [p.bytes]) ++ splitc 32 (s.bytes.drop (q + 1))) := Lib.hid (by
          rw [HK.out.2.1, hpb, List.append_assoc, List.singleton_append, ← splitc_app _ _ _ HK.out.2.2.1, ← hsd])
        have ho := HK.out.1.alloc (.cells #[.string p] 9)
        have hbw : w.heap.size ≤ wr.heap.size := HK.out.2.2.2.size
        have ws1 : (f ≤ q) = True := by simp [hfq]
        have ws2 : (q ≤ s.size) = True := by simp [hq]
        have ws3 : ((f : Int) ≤ (q : Int)) = True := by simp; omega
        have ws4 : ((q : Int) ≤ (s.size : Int)) = True := by simp; omega
        clear hat hsd hpb hc
        go_wp2_with (first | (rw [hp]) | (at_builtin; refine wpList_append_src rfl _ _ 60 rfl (w.heap.size) 9 i0 (.string ByteArray.empty) 1 16 hun hi0 hz0 hz1 hz2 rfl (by decide) _ _ _ rfl (ho) _ 1 [.string p] rfl Src.one rfl (by intro u hu; simp at hu; subst hu; rfl) (by unfold maxLen; omega) (by omega) (by first | (simp; done) | (simp; omega)) ?_))
        intro v' w7 hown7 hgrow
        obtain ⟨sn, rfl⟩ := own_sl' hown7
        have H7 : Hid (w7.ownsRow w.heap.size 9 1 sn.v (L ++ [p.bytes]).length ((L ++ [p.bytes]).map sv) ∧ Fr [] w w7) := Lib.hid (by
          refine ⟨?_, (HK.out.2.2.2.alloc _).grown hgrow (fun k hk => .inr (ho.lt k hk).1)⟩
          rw [List.length_append, List.map_append]
          have e : sv p.bytes = .string p := by show Value.string ⟨p.bytes.toArray⟩ = _; exact congrArg Value.string (ba_bytes rfl)
          simp only [List.map_cons, List.map_nil, e]
          exact hown7)
        clear hown7 hgrow ho hbw
        go_wp2
        go_roundw
        case rel => exact ⟨q + 1, q + 1, L ++ [p.bytes], sn, rfl, by go_num, by go_num, by omega, by omega, by simp; omega, H7.out.1, HX.out, by simp, H7.out.2⟩
        case measure => simp [intOf]; omega
      · have qa : ((s[q].toNat : Int) == 32) = false := by
          rw [beq_eq_false_iff_ne]
          intro e
          apply hc
          apply UInt8.toNat_inj.1
          have : s[q].toNat = 32 := by omega
          rw [this]; rfl
        have HX : Hid ((32 : UInt8) ∉ (s.bytes.drop f).take (q + 1 - f)) := Lib.hid (by
          obtain ⟨h1, h2⟩ := List.getElem?_eq_some_iff.1 hat
          rw [show q + 1 - f = (q - f) + 1 by omega, List.take_succ_eq_append_getElem h1, h2]
          intro hm
          rcases List.mem_append.1 hm with hm | hm
          · exact HK.out.2.2.1 hm
          · simp at hm; exact hc hm.symm)
        clear hat hc
        go_wp2
        go_roundw
        case rel => exact ⟨q + 1, f, L, sl, rfl, rfl, by go_num, by omega, by omega, by omega, HK.out.1, HK.out.2.1, HX.out, HK.out.2.2.2⟩
        case measure => simp [intOf]; omega
    · have hqe : q = s.size := by omega
      have HZ : Hid (splitc 32 s.bytes = L ++ [s.bytes.drop f]) := Lib.hid (by
        have h1 := HK.out.2.2.1
        rw [List.take_of_length_le (by rw [List.length_drop, hzz]; omega)] at h1
        rw [HK.out.2.1, splitc_none _ _ h1])
      subst hqe
      obtain ⟨p, hp⟩ : ∃ p, s.extract f s.size = p := ⟨_, rfl⟩
      have hpb : p.bytes = s.bytes.drop f := by
        rw [← hp]
        show (s.extract f s.size).data.toList = _
        rw [Lib.extract_data]
        exact List.take_of_length_le (by rw [List.length_drop]; exact Nat.le_refl _)
      have ho := HK.out.1.alloc (.cells #[.string p] 9)
      have hbw : w.heap.size ≤ wr.heap.size := HK.out.2.2.2.size
      have ws1 : (f ≤ s.size) = True := by simp [hfq]
      have ws3 : ((f : Int) ≤ (s.size : Int)) = True := by simp; omega
      have HZ2 : Hid (splitc 32 s.bytes = L ++ [p.bytes]) := Lib.hid (by rw [HZ.out, hpb])
      clear hpb
      go_wp2_with (first | (rw [hp]) | (at_builtin; refine wpList_append_src rfl _ _ 60 rfl (w.heap.size) 9 i0 (.string ByteArray.empty) 1 16 hun hi0 hz0 hz1 hz2 rfl (by decide) _ _ _ rfl (ho) _ 1 [.string p] rfl Src.one rfl (by intro u hu; simp at hu; subst hu; rfl) (by unfold maxLen; omega) (by omega) (by first | (simp; done) | (simp; omega)) ?_))
      intro v' w7 hown7 hgrow
      obtain ⟨sn, rfl⟩ := own_sl' hown7
      have H7 : Hid (w7.ownsRow w.heap.size 9 1 sn.v (L ++ [p.bytes]).length ((L ++ [p.bytes]).map sv) ∧ Fr [] w w7) := Lib.hid (by
        refine ⟨?_, (HK.out.2.2.2.alloc _).grown hgrow (fun k hk => .inr (ho.lt k hk).1)⟩
        rw [List.length_append, List.map_append]
        have e : sv p.bytes = .string p := by show Value.string ⟨p.bytes.toArray⟩ = _; exact congrArg Value.string (ba_bytes rfl)
        simp only [List.map_cons, List.map_nil, e]
        exact hown7)
      clear hown7 hgrow ho hbw
      go_wp2
      go_ret
      exact ⟨⟨sn, rfl, by rw [HZ2.out]; exact H7.out.1⟩, H7.out.2⟩
/-- The lines of a text, and has the last one its end? -/
def linesM (t : List UInt8) : List (List UInt8) × Bool := if lastL t = [] then ((splitc 10 t).dropLast, true) else (splitc 10 t, false)
theorem linesM_end {t : List UInt8} {L : List (List UInt8)} (h : splitc 10 t = L ++ [[]]) : linesM t = (L, true) := by
  unfold linesM lastL lineN
  rw [h]
  simp
theorem linesM_open {t : List UInt8} {L : List (List UInt8)} {z : List UInt8} (h : splitc 10 t = L ++ [z]) (hz : z ≠ []) : linesM t = (L ++ [z], false) := by
  unfold linesM lastL lineN
  rw [h]
  simp [hz]
set_option maxRecDepth 100000 in
set_option maxHeartbeats 8000000 in
theorem r28_lines (w : World) (s : ByteArray) (hs : s.size ≤ 2000000) : Calls Tryd.prog 22 #[.string s] w fun e w' => (∃ sl : Sl, e = .returned (.tuple #[.slice sl.A sl.n sl.c, .bool (linesM s.bytes).2]) ∧ w'.ownsRow w.heap.size 9 1 sl.v (linesM s.bytes).1.length ((linesM s.bytes).1.map sv)) ∧ Fr [] w w' := by
  obtain ⟨i0, hi0, hz0, hz1, hz2⟩ := info_parts (show (Tryd.prog.info? 9).map (fun i => (i.zero, i.size, i.bytes)) = some (some (.string ByteArray.empty), 1, 16) by kernel_rfl)
  have hun : Tryd.prog.underlying 60 = some (.slice 9) := Tryd.underlying60
  have hzz : s.bytes.length = s.size := rfl
  go_enter Tryd.func22, Tryd.ntmps22
  go_wp2
  go_loopw [4, 5, 6] (fun o a i wr => ∃ (q f : Nat) (L : List (List UInt8)) (sl : Sl), o = .slice sl.A sl.n sl.c ∧ a = .int .i64 (f : Int) ∧ i = .int .i64 (q : Int) ∧ f ≤ q ∧ q ≤ s.size ∧ L.length ≤ q ∧ wr.ownsRow w.heap.size 9 1 sl.v L.length (L.map sv) ∧ splitc 10 s.bytes = L ++ splitc 10 (s.bytes.drop f) ∧ (10 : UInt8) ∉ (s.bytes.drop f).take (q - f) ∧ Fr [] w wr) (fun _ _ i _ => s.size - (intOf i).toNat)
  case atStart => exact ⟨0, 0, [], Sl.nil, rfl, rfl, rfl, by omega, by omega, by simp, World.ownsRow_nil _ _ _ _, by simp, by simp, Fr.refl _ _⟩
  case round =>
    obtain ⟨q, f, L, sl, rfl, rfl, rfl, hfq, hq, hL, hown, hsp, hno, hf⟩ := hrel
    have HK := Lib.hid (And.intro hown (And.intro hsp (And.intro hno hf)))
    clear hown hsp hno hf
    by_cases hlt : q < s.size
    · have d1 : (q : Int) < (s.size : Int) := by omega
      have wq : IntKind.i64.wrap ((q : Int) + 1) = (q : Int) + 1 := IntWalk.i64_in _ (by omega)
      have hdl : (s.bytes.drop f).length = s.size - f := by rw [List.length_drop, hzz]
      have hat : (s.bytes.drop f)[q - f]? = some s[q] := by
        rw [List.getElem?_drop, show f + (q - f) = q by omega, List.getElem?_eq_getElem (show q < s.bytes.length by omega)]
        rfl
      by_cases hc : s[q] = 10
      · have qa : ((s[q].toNat : Int) == 10) = true := by rw [hc]; rfl
        obtain ⟨p, hp⟩ : ∃ p, s.extract f q = p := ⟨_, rfl⟩
        have hpb : p.bytes = (s.bytes.drop f).take (q - f) := by
          rw [← hp]
          show (s.extract f q).data.toList = _
          rw [Lib.extract_data]
          rfl
        have hsd : s.bytes.drop f = (s.bytes.drop f).take (q - f) ++ 10 :: s.bytes.drop (q + 1) := by
          rw [hc] at hat
          obtain ⟨h1, h2⟩ := List.getElem?_eq_some_iff.1 hat
          conv => lhs; rw [← List.take_append_drop (q - f) (s.bytes.drop f)]
          rw [List.drop_eq_getElem_cons h1, h2, List.drop_drop, show f + (q - f + 1) = q + 1 by omega]
        have HX : Hid (splitc 10 s.bytes = (L ++ [p.bytes]) ++ splitc 10 (s.bytes.drop (q + 1))) := Lib.hid (by
          rw [HK.out.2.1, hpb, List.append_assoc, List.singleton_append, ← splitc_app _ _ _ HK.out.2.2.1, ← hsd])
        have ho := HK.out.1.alloc (.cells #[.string p] 9)
        have hbw : w.heap.size ≤ wr.heap.size := HK.out.2.2.2.size
        have ws1 : (f ≤ q) = True := by simp [hfq]
        have ws2 : (q ≤ s.size) = True := by simp [hq]
        have ws3 : ((f : Int) ≤ (q : Int)) = True := by simp; omega
        have ws4 : ((q : Int) ≤ (s.size : Int)) = True := by simp; omega
        clear hat hsd hpb hc
        go_wp2_with (first | (rw [hp]) | (at_builtin; refine wpList_append_src rfl _ _ 60 rfl (w.heap.size) 9 i0 (.string ByteArray.empty) 1 16 hun hi0 hz0 hz1 hz2 rfl (by decide) _ _ _ rfl (ho) _ 1 [.string p] rfl Src.one rfl (by intro u hu; simp at hu; subst hu; rfl) (by unfold maxLen; omega) (by omega) (by first | (simp; done) | (simp; omega)) ?_))
        intro v' w7 hown7 hgrow
        obtain ⟨sn, rfl⟩ := own_sl' hown7
        have H7 : Hid (w7.ownsRow w.heap.size 9 1 sn.v (L ++ [p.bytes]).length ((L ++ [p.bytes]).map sv) ∧ Fr [] w w7) := Lib.hid (by
          refine ⟨?_, (HK.out.2.2.2.alloc _).grown hgrow (fun k hk => .inr (ho.lt k hk).1)⟩
          rw [List.length_append, List.map_append]
          have e : sv p.bytes = .string p := by show Value.string ⟨p.bytes.toArray⟩ = _; exact congrArg Value.string (ba_bytes rfl)
          simp only [List.map_cons, List.map_nil, e]
          exact hown7)
        clear hown7 hgrow ho hbw
        go_wp2
        go_roundw
        case rel => exact ⟨q + 1, q + 1, L ++ [p.bytes], sn, rfl, by go_num, by go_num, by omega, by omega, by simp; omega, H7.out.1, HX.out, by simp, H7.out.2⟩
        case measure => simp [intOf]; omega
      · have qa : ((s[q].toNat : Int) == 10) = false := by
          rw [beq_eq_false_iff_ne]
          intro e
          apply hc
          apply UInt8.toNat_inj.1
          have : s[q].toNat = 10 := by omega
          rw [this]; rfl
        have HX : Hid ((10 : UInt8) ∉ (s.bytes.drop f).take (q + 1 - f)) := Lib.hid (by
          obtain ⟨h1, h2⟩ := List.getElem?_eq_some_iff.1 hat
          rw [show q + 1 - f = (q - f) + 1 by omega, List.take_succ_eq_append_getElem h1, h2]
          intro hm
          rcases List.mem_append.1 hm with hm | hm
          · exact HK.out.2.2.1 hm
          · simp at hm; exact hc hm.symm)
        clear hat hc
        go_wp2
        go_roundw
        case rel => exact ⟨q + 1, f, L, sl, rfl, rfl, by go_num, by omega, by omega, by omega, HK.out.1, HK.out.2.1, HX.out, HK.out.2.2.2⟩
        case measure => simp [intOf]; omega
    · have hqe : q = s.size := by omega
      have HZ : Hid (splitc 10 s.bytes = L ++ [s.bytes.drop f]) := Lib.hid (by
        have h1 := HK.out.2.2.1
        rw [List.take_of_length_le (by rw [List.length_drop, hzz]; omega)] at h1
        rw [HK.out.2.1, splitc_none _ _ h1])
      subst hqe
      by_cases hfe : f < s.size
      · have d2 : (f : Int) < (s.size : Int) := by omega
        obtain ⟨p, hp⟩ : ∃ p, s.extract f s.size = p := ⟨_, rfl⟩
        have hpb : p.bytes = s.bytes.drop f := by
          rw [← hp]
          show (s.extract f s.size).data.toList = _
          rw [Lib.extract_data]
          exact List.take_of_length_le (by rw [List.length_drop]; exact Nat.le_refl _)
        have ho := HK.out.1.alloc (.cells #[.string p] 9)
        have hbw : w.heap.size ≤ wr.heap.size := HK.out.2.2.2.size
        have ws1 : (f ≤ s.size) = True := by simp [hfq]
        have ws3 : ((f : Int) ≤ (s.size : Int)) = True := by simp; omega
        have HZ2 : Hid (splitc 10 s.bytes = L ++ [p.bytes]) := Lib.hid (by rw [HZ.out, hpb])
        clear hpb
        go_wp2_with (first | (rw [hp]) | (at_builtin; refine wpList_append_src rfl _ _ 60 rfl (w.heap.size) 9 i0 (.string ByteArray.empty) 1 16 hun hi0 hz0 hz1 hz2 rfl (by decide) _ _ _ rfl (ho) _ 1 [.string p] rfl Src.one rfl (by intro u hu; simp at hu; subst hu; rfl) (by unfold maxLen; omega) (by omega) (by first | (simp; done) | (simp; omega)) ?_))
        intro v' w7 hown7 hgrow
        obtain ⟨sn, rfl⟩ := own_sl' hown7
        have H7 : Hid (w7.ownsRow w.heap.size 9 1 sn.v (L ++ [p.bytes]).length ((L ++ [p.bytes]).map sv) ∧ Fr [] w w7) := Lib.hid (by
          refine ⟨?_, (HK.out.2.2.2.alloc _).grown hgrow (fun k hk => .inr (ho.lt k hk).1)⟩
          rw [List.length_append, List.map_append]
          have e : sv p.bytes = .string p := by show Value.string ⟨p.bytes.toArray⟩ = _; exact congrArg Value.string (ba_bytes rfl)
          simp only [List.map_cons, List.map_nil, e]
          exact hown7)
        clear hown7 hgrow ho hbw
        have HM : Hid (linesM s.bytes = (L ++ [p.bytes], false)) := Lib.hid (linesM_open HZ2.out (by
          intro e
          have h1 := congrArg List.length e
          have h2 : p.bytes.length = s.size - f := by rw [← hp]; show (s.extract f s.size).size = _; rw [ByteArray.size_extract]; omega
          rw [h2] at h1
          simp at h1
          omega))
        go_wp2
        go_ret2
        exact ⟨⟨sn, by rw [HM.out]; rfl, by rw [HM.out]; exact H7.out.1⟩, H7.out.2⟩
      · have d2 : ¬ (f : Int) < (s.size : Int) := by omega
        have HM : Hid (linesM s.bytes = (L, true)) := Lib.hid (linesM_end (by
          rw [HZ.out, List.drop_of_length_le (by rw [hzz]; omega)]))
        go_wp2
        go_ret2
        exact ⟨⟨sl, by rw [HM.out]; rfl, by rw [HM.out]; exact HK.out.1⟩, HK.out.2.2.2⟩
end Go.Proofs.YtodlbajpcbdbaaaDoor
namespace Go.Proofs.YtodlbajpcbdbaaaDoor
open Go.RowKit Go.Shelf
set_option linter.unusedVariables false
set_option linter.unusedSimpArgs false
set_option maxRecDepth 100000
set_option maxHeartbeats 2000000 in
theorem r28_raw (w : World) (s : ByteArray) (hs : s.size ≤ 1000000) : Calls Tryd.prog 64 #[.string s] w (RawPost w s.bytes) := by
  obtain ⟨i0, hi0, hz0, hz1, hz2⟩ := info_parts (show (Tryd.prog.info? 5).map (fun i => (i.zero, i.size, i.bytes)) = some (some (.int .u8 0), 1, 1) by kernel_rfl)
  have hun : Tryd.prog.underlying 53 = some (.slice 5) := Tryd.underlying53
  by_cases h1 : s.bytes = [45]
  · have q1 : (s.toList == [45]) = true := by rw [ByteArray.toList_eq]; exact beq_iff_eq.2 h1
    have HP : Hid (rawM s.bytes = some []) := by rw [h1]; rfl
    clear h1
    go_enter Tryd.func64, Tryd.ntmps64
    go_wp2
    go_ret2
    refine ⟨Fr.refl _ _, ?_⟩
    rw [HP.out]
    exact ⟨Sl.nil, rfl, Bts.nil _ _, by simp [Sl.nil, Sl.blk]⟩
  · have q1 : (s.toList == [45]) = false := by rw [ByteArray.toList_eq, beq_eq_false_iff_ne]; exact h1
    by_cases h2 : s.bytes = []
    · have q2 : s.toList = [] := by rw [ByteArray.toList_eq]; exact h2
      have HP : Hid (rawM s.bytes = none) := by rw [h2]; rfl
      have q3 : ((s.size : Int) == 0) = true := by rw [beq_iff_eq]; have h9 : s.bytes.length = s.size := rfl; rw [h2] at h9; simp at h9; omega
      clear h1 h2
      go_enter Tryd.func64, Tryd.ntmps64
      go_wp2
      go_ret2
      refine ⟨Fr.refl _ _, ?_⟩
      rw [HP.out]
      rfl
    · have q2 : ¬ s.toList = [] := by rw [ByteArray.toList_eq]; exact h2
      have q2b : s.toList.isEmpty = false := by rw [List.isEmpty_eq_false_iff]; exact q2
      clear q2
      have hz : s.bytes.length = s.size := rfl
      have q4 : ((s.size : Int) == 0) = false := by rw [beq_eq_false_iff_ne]; intro e; exact h2 (List.eq_nil_of_length_eq_zero (by omega))
      by_cases h3 : s.size % 2 = 1
      · have HP : Hid (rawM s.bytes = none) := by unfold rawM; rw [if_neg h1, if_neg h2]; exact pairs_odd _ h3
        have q3 : (s.size : Int) % 2 = 1 := by omega
        have q5 : ((s.size : Int) % 2 != 0) = true := by rw [q3]; rfl
        clear h1 h2
        go_enter Tryd.func64, Tryd.ntmps64
        go_wp2
        go_ret2
        refine ⟨Fr.refl _ _, ?_⟩
        rw [HP.out]
        rfl
      · have HR : Hid (rawM s.bytes = pairsM s.bytes) := Lib.hid (by unfold rawM; rw [if_neg h1, if_neg h2])
        have q3 : (s.size : Int) % 2 = 0 := by omega
        have q5 : ((s.size : Int) % 2 != 0) = false := by rw [q3]; rfl
        clear h1 h2
        go_enter Tryd.func64, Tryd.ntmps64
        go_wp2
        have H3 := Lib.hid h3
        clear q3 q4 q5 h3
        go_loopw [4, 5] (fun b i wr => ∃ (k : Nat) (bs : List UInt8) (sl : Sl), b = .slice sl.A sl.n sl.c ∧ i = .int .i64 ((2 * k : Nat) : Int) ∧ 2 * k ≤ s.size ∧ bs.length = k ∧ pairsM (s.bytes.take (2 * k)) = some bs ∧ wr.ownsRow w.heap.size 5 1 sl.v k ((bytesI bs).map (Value.int .u8)) ∧ Fr [] w wr) (fun _ i _ => s.size - (intOf i).toNat)
        case atStart => exact ⟨0, [], Sl.nil, rfl, rfl, by omega, rfl, rfl, World.ownsRow_nil _ _ _ _, Fr.refl _ _⟩
        case round =>
          obtain ⟨k, bs, sl, rfl, rfl, hk, hbs, hp, hown, hf⟩ := hrel
          obtain ⟨j, hj⟩ : ∃ j, 2 * k = j := ⟨_, rfl⟩
          have HO := Lib.hid (And.intro hbs (And.intro hp (And.intro hown (And.intro hf hj))))
          rw [hj] at hk ⊢
          clear hbs hp hown hf
          by_cases hlt : j < s.size
          · have hl1 : j + 1 < s.size := by have := H3.out; omega
            obtain ⟨j2, hj2⟩ : ∃ j2 : Nat, j + 1 = j2 := ⟨_, rfl⟩
            have ww : IntKind.i64.wrap ((j : Int) + 1) = (j2 : Int) := by rw [IntWalk.i64_in _ (by omega)]; omega
            rw [hj2] at hl1
            have HJ := Lib.hid hj2
            clear hj hj2
            go_wp2_with fail
            refine (r28_digit _ _).mono ?_
            rintro e w1 ⟨rfl, rfl⟩
            go_wp2_with fail
            refine (r28_digit _ _).mono ?_
            rintro e w1 ⟨rfl, rfl⟩
            have HX := Lib.hid (show s[j] = s.bytes[j]'(by rw [hz]; omega) ∧ s[j2] = s.bytes[j2]'(by rw [hz]; omega) from ⟨rfl, rfl⟩)
            have f1 : Fr [] w w1 := HO.out.2.2.2.1
            generalize s[j] = ca at HX ⊢
            generalize s[j2] = cb at HX ⊢
            have HF := Lib.hid f1
            have HD : Hid (pairsM s.bytes = (pairsM (ca :: cb :: s.bytes.drop (2 * (k + 1)))).map (bs ++ ·)) := Lib.hid (by
              have h1 := drop2 s.bytes k (by rw [hz]; have := HO.out.2.2.2.2; have := HJ.out; omega)
              have h2 := pairs_app (s.bytes.take (2 * k)) (s.bytes.drop (2 * k)) bs HO.out.2.1
              rw [List.take_append_drop, h1] at h2
              have e1 := HO.out.2.2.2.2
              have e2 := HJ.out
              rw [h2]
              obtain ⟨x1, x2⟩ := HX.out
              subst e1 e2
              rw [x1, x2])
            have HT : Hid (s.bytes.take (2 * (k + 1)) = s.bytes.take (2 * k) ++ [ca, cb]) := Lib.hid (by
              have h1 := take2 s.bytes k (by rw [hz]; have := HO.out.2.2.2.2; have := HJ.out; omega)
              have e1 := HO.out.2.2.2.2
              have e2 := HJ.out
              obtain ⟨x1, x2⟩ := HX.out
              subst e1 e2
              rw [h1, x1, x2])
            have ownN : Hid (w1.ownsRow w.heap.size 5 1 sl.v k ((bytesI bs).map (Value.int .u8))) := Lib.hid HO.out.2.2.1
            clear f1
            obtain ⟨wx, hwx⟩ : ∃ wx, w1 = wx := ⟨_, rfl⟩
            rw [hwx] at HF ownN ⊢
            clear hwx
            by_cases hx : hexI ca < 0 ∨ hexI cb < 0
            · have HN : Hid (pairsM s.bytes = none) := Lib.hid (by rw [HD.out, pairs_bad hx]; rfl)
              rcases hx with hx | hx
              · go_wp2
                go_ret2
                refine ⟨HF.out, ?_⟩
                rw [HR.out, HN.out]
                rfl
              · by_cases hy : hexI ca < 0
                · go_wp2
                  go_ret2
                  refine ⟨HF.out, ?_⟩
                  rw [HR.out, HN.out]
                  rfl
                · go_wp2
                  go_ret2
                  refine ⟨HF.out, ?_⟩
                  rw [HR.out, HN.out]
                  rfl
            · have hx1 : 0 ≤ hexI ca := by omega
              have hy1 : 0 ≤ hexI cb := by omega
              obtain ⟨hx2, hy2, hg⟩ := pairs_good hx1 hy1
              have HG := Lib.hid hg
              generalize hexI ca = x at hx1 hx2 HG ⊢
              generalize hexI cb = y at hy1 hy2 HG ⊢
              clear hx hg
              obtain ⟨z, hz⟩ : ∃ z : Int, IntKind.u8.wrap (bits .or .i64 (x * 16) y) = z := ⟨_, rfl⟩
              have HZ : Hid (z = ((16 * x.toNat + y.toNat : Nat) : Int) ∧ 16 * x.toNat + y.toNat < 256) := Lib.hid (by
                have := or_fin ⟨x.toNat, by omega⟩ ⟨y.toNat, by omega⟩
                rw [show ((x.toNat : Nat) : Int) = x by omega, show ((y.toNat : Nat) : Int) = y by omega] at this
                exact ⟨hz.symm.trans this, by omega⟩)
              have hbw : w.heap.size ≤ wx.heap.size := HF.out.size
              obtain ⟨j3, hj3⟩ : ∃ j3 : Nat, j + 2 = j3 := ⟨_, rfl⟩
              have wj : IntKind.i64.wrap ((j : Int) + 2) = (j3 : Int) := by rw [IntWalk.i64_in _ (by omega)]; omega
              have HJ3 := Lib.hid hj3
              clear hj3
              have hkk : k ≤ 1000000 := by have := HO.out.2.2.2.2; omega
              go_wp2_with (at_builtin; refine wpList_append_src rfl _ _ 53 rfl (w.heap.size) 5 i0 (.int .u8 0) 1 1 hun hi0 hz0 hz1 hz2 rfl (by decide) _ _ _ rfl (ownN.out.alloc _) _ 1 [.int .u8 z] rfl Src.one rfl (by intro u hu; simp at hu; subst hu; rfl) (by unfold maxLen; omega) (by omega) (by first | (simp; done) | (simp; omega)) ?_)
              intro v' w4 hown4 hgrow
              have f4 : Fr [] w w4 := (HF.out.alloc _).grown hgrow (fun k hk => .inr (ownN.out.lt k hk).1)
              obtain ⟨sl', rfl⟩ := own_sl' hown4
              have HO4 := Lib.hid (And.intro hown4 f4)
              have HREL : Hid (j3 = 2 * (k + 1) ∧ 2 * (k + 1) ≤ s.size ∧ (bs ++ [UInt8.ofNat (16 * x.toNat + y.toNat)]).length = k + 1 ∧ pairsM (s.bytes.take (2 * (k + 1))) = some (bs ++ [UInt8.ofNat (16 * x.toNat + y.toNat)]) ∧ w4.ownsRow w.heap.size 5 1 sl'.v (k + 1) ((bytesI (bs ++ [UInt8.ofNat (16 * x.toNat + y.toNat)])).map (Value.int .u8))) := by
                have a1 := HO.out.2.2.2.2
                have a2 := HJ3.out
                have a3 := HJ.out
                refine Lib.hid ⟨by omega, by omega, by simp [HO.out.1], ?_, ?_⟩
                · rw [HT.out, pairs_app _ _ _ HO.out.2.1, HG.out]; rfl
                · have := HO4.out.1
                  rw [HZ.out.1] at this
                  have e : (UInt8.ofNat (16 * x.toNat + y.toNat)).toNat = 16 * x.toNat + y.toNat := by rw [UInt8.toNat_ofNat']; have := HZ.out.2; omega
                  rw [← e] at this
                  simpa only [bytesI, List.map_append, List.map_cons, List.map_nil] using this
              clear hown4 hgrow f4 hz
              go_wp2
              go_roundw
              case rel => exact ⟨k + 1, _, sl', rfl, by rw [HREL.out.1], HREL.out.2.1, HREL.out.2.2.1, HREL.out.2.2.2.1, HREL.out.2.2.2.2, HO4.out.2⟩
              case measure => have := HJ3.out; simp [intOf]; omega
          · have he : j = s.size := by omega
            have HB : Hid (pairsM s.bytes = some bs) := Lib.hid (by have := HO.out.2.1; rwa [hj, he, List.take_of_length_le (Nat.le_of_eq hz)] at this)
            clear hj
            go_wp2
            go_ret2
            refine ⟨HO.out.2.2.2.1, ?_⟩
            rw [HR.out, HB.out]
            have ho := HO.out.2.2.1
            rw [← HO.out.1] at ho
            refine ⟨sl, rfl, Bts.own (by rw [show (bytesI bs).length = bs.length by simp [bytesI]]; exact ho) (bytesI_wf _) 0, fun x hx => (own_blk ho x hx).1⟩
end Go.Proofs.YtodlbajpcbdbaaaDoor
namespace Go.Proofs.YtodlbajpcbdbaaaDoor
open Go.RowKit Go.Shelf
set_option linter.unusedVariables false
set_option linter.unusedSimpArgs false
set_option maxRecDepth 100000

/-- The word and the letters of an event's number, as strings. -/
def wordS (d : Int) : ByteArray := match findD d with | some s => ⟨s.2.1.toArray⟩ | none => ByteArray.empty
def hasS (d : Int) : ByteArray := match findD d with | some s => ⟨s.2.2.toArray⟩ | none => ByteArray.empty
theorem r28_others (w : World) (d : Int) (hd : ¬ (d = 1 ∨ d = 23 ∨ d = 24 ∨ d = 22 ∨ d = 2 ∨ d = 4 ∨ d = 10 ∨ d = 3 ∨ d = 5 ∨ d = 6 ∨ d = 7 ∨ d = 8 ∨ d = 9 ∨ d = 11)) : Calls Tryd.prog 54 #[.int .i64 d] w fun e w' => e = .returned (.tuple #[.string (wordS d), .string (hasS d)]) ∧ Fr [] w w' := by
  by_cases h : d = 12 ∨ d = 13 ∨ d = 14 ∨ d = 15 ∨ d = 16 ∨ d = 17 ∨ d = 18 ∨ d = 19 ∨ d = 21 ∨ d = 25 ∨ d = 20
  · rcases h with rfl | rfl | rfl | rfl | rfl | rfl | rfl | rfl | rfl | rfl | rfl
    all_goals (
      clear hd
      go_enter Tryd.func54, Tryd.ntmps54
      go_wp2
      go_ret2
      exact ⟨rfl, Fr.refl _ _⟩)
  · have hn : findD d = none := by
      unfold findD
      rw [List.find?_eq_none]
      intro x hx hc
      have hc2 : x.1 = d := by simpa using hc
      simp only [shapesM, List.mem_cons, List.not_mem_nil, or_false] at hx
      rcases hx with rfl | rfl | rfl | rfl | rfl | rfl | rfl | rfl | rfl | rfl | rfl | rfl | rfl | rfl | rfl | rfl | rfl | rfl | rfl | rfl | rfl | rfl | rfl | rfl | rfl
      all_goals (simp only at hc2; omega)
    have q12 : (d == 12) = false := by simp; omega
    have q13 : (d == 13) = false := by simp; omega
    have q14 : (d == 14) = false := by simp; omega
    have q15 : (d == 15) = false := by simp; omega
    have q16 : (d == 16) = false := by simp; omega
    have q17 : (d == 17) = false := by simp; omega
    have q18 : (d == 18) = false := by simp; omega
    have q19 : (d == 19) = false := by simp; omega
    have q21 : (d == 21) = false := by simp; omega
    have q25 : (d == 25) = false := by simp; omega
    have q20 : (d == 20) = false := by simp; omega
    have HX : Hid (wordS d = ByteArray.empty ∧ hasS d = ByteArray.empty) := Lib.hid ⟨by unfold wordS; rw [hn], by unfold hasS; rw [hn]⟩
    clear h hd hn
    go_enter Tryd.func54, Tryd.ntmps54
    go_wp2
    go_ret2
    exact ⟨by rw [HX.out.1, HX.out.2]; rfl, Fr.refl _ _⟩
theorem r28_shape (w : World) (d : Int) : Calls Tryd.prog 35 #[.int .i64 d] w fun e w' => e = .returned (.tuple #[.string (wordS d), .string (hasS d)]) ∧ Fr [] w w' := by
  by_cases h : d = 1 ∨ d = 23 ∨ d = 24 ∨ d = 22 ∨ d = 2 ∨ d = 4 ∨ d = 10 ∨ d = 3 ∨ d = 5 ∨ d = 6 ∨ d = 7 ∨ d = 8 ∨ d = 9 ∨ d = 11
  · rcases h with rfl | rfl | rfl | rfl | rfl | rfl | rfl | rfl | rfl | rfl | rfl | rfl | rfl | rfl
    all_goals (
      go_enter Tryd.func35, Tryd.ntmps35
      go_wp2
      go_ret2
      exact ⟨rfl, Fr.refl _ _⟩)
  · have hc := fun w => r28_others w d h
    have q1 : (d == 1) = false := by simp; omega
    have q23 : (d == 23) = false := by simp; omega
    have q24 : (d == 24) = false := by simp; omega
    have q22 : (d == 22) = false := by simp; omega
    have q2 : (d == 2) = false := by simp; omega
    have q4 : (d == 4) = false := by simp; omega
    have q10 : (d == 10) = false := by simp; omega
    have q3 : (d == 3) = false := by simp; omega
    have q5 : (d == 5) = false := by simp; omega
    have q6 : (d == 6) = false := by simp; omega
    have q7 : (d == 7) = false := by simp; omega
    have q8 : (d == 8) = false := by simp; omega
    have q9 : (d == 9) = false := by simp; omega
    have q11 : (d == 11) = false := by simp; omega
    clear h
    go_enter Tryd.func35, Tryd.ntmps35
    go_wp2_with fail
    refine (hc _).mono ?_
    rintro e w1 ⟨rfl, f1⟩
    have H1 := Lib.hid f1
    clear f1 hc
    go_wp2
    go_ret2
    exact ⟨rfl, H1.out⟩
end Go.Proofs.YtodlbajpcbdbaaaDoor
namespace Go.Proofs.YtodlbajpcbdbaaaDoor
open Go.RowKit
set_option linter.unusedVariables false
set_option linter.unusedSimpArgs false
set_option maxRecDepth 100000

/-- As parStepsA: l are the operations that come in any order. -/
def parStepsU (P : Program) (md : Region.Mode) (all l : List Oper) (Q : Exit → Act → World → Prop) (L : List Nat) (V : Nat → World → Value → Prop) (t : Array Value) (w : World) : List Oper → Nat → Prop
  | [], _ => True
  | o :: r, i => (∀ (a : Act) (w' : World), Fr L w w' → (∀ k, (l.all fun o => o.dst != some k) = true → a.tmps.getD k undef = t.getD k undef) → holdsA V w' a all (waits md o) → ∀ K : Act → World → Prop, Shut (∀ v w'', Fr L w' w'' → V i w'' v → K (a.put o.dst v) w'') →
      if Region.wanted o (yielded all.toArray a.tmps) = true then o.wp P a w' K Q else K (a.put o.dst undef) w') ∧
    parStepsU P md all l Q L V t w r (i + 1)

theorem parStepsT_ofU {P : Program} {md : Region.Mode} {l zs : List Oper} {Q : Exit → Act → World → Prop} {L : List Nat} {V : Nat → World → Value → Prop} {t : Array Value} {df : List Deferred} {w : World} (hA : apartB l = true) (hT : topoB md (l ++ zs) = true) (hsz : (l.all fun o => match o.dst with | some d => decide (d < t.size) | none => true) = true) :
    ∀ {r : List Oper} {k : Nat}, l.drop k = r → parStepsU P md (l ++ zs) l Q L V t w r k → parStepsT P md (l ++ zs) l Q L V t df w r k
  | [], _, _, _ => trivial
  | o :: r, k, hr, h => by
    have hk : l[k]? = some o := by
      have : (l.drop k)[0]? = some o := by rw [hr]; rfl
      simpa using this
    have hkl : k < l.length := (List.getElem?_eq_some_iff.1 hk).1
    refine ⟨fun x w' hf hp K hK => h.1 _ w' hf (fun j hj => by
      rw [Array.getD_eq_getD_getElem?, Array.getD_eq_getD_getElem?, fill_keep l 0 x t j (fun i o' ho' he => by
        simp only [List.all_eq_true, bne_iff_ne, ne_eq] at hj
        exact hj o' (List.mem_of_getElem? ho') he)]) (holdsA_ofT hA hsz (fun i hi => ?_) hp) K hK, parStepsT_ofU hA hT hsz (by rw [← List.drop_drop, hr]; rfl) h.2⟩
    simp only [topoB, List.all_eq_true, List.mem_range] at hT
    have g1 := hT k (by simp; omega)
    rw [List.getElem?_append_left hkl, hk] at g1
    simp only [List.all_eq_true, decide_eq_true_eq] at g1
    have := g1 i hi
    omega

theorem wp_region_keepsU {P : Program} {id : Nat} {Q : Exit → Act → World → Prop} {t : Array Value} {df : List Deferred} {w : World} {all : List Oper} (L : List Nat) (Vs : List (World → Value → Prop)) (n : Nat) (hn : decide (n ≤ all.length) = true) (hm : P.follows .mixedOrders = true)
    (hA : apartB (all.take n) = true) (hT : topoB .any all = true) (hsz : ((all.take n).all fun o => match o.dst with | some d => decide (d < t.size) | none => true) = true) (hW : tailB .any all n = true) (hV : KeepsAll L Vs) (hS : parStepsU P .any all (all.take n) Q L (nth Vs) t w (all.take n) 0)
    (hD : ∀ x w', Fr L w w' → holds (nth Vs) w' x (List.range n) → wpList P all.toArray Q (all.drop n) { tmps := fill (all.take n) 0 x t, defers := df } w') :
    (Code.region id all.toArray true).wp P Q { tmps := t, defers := df } w := by
  have e : all = all.take n ++ all.drop n := (List.take_append_drop n all).symm
  have hl : (all.take n).length = n := by simp at hn ⊢; omega
  refine wp_region_any hm ?_
  generalize hlz : all.take n = l at *
  generalize all.drop n = zs at *
  subst e
  subst hl
  have hS' := parStepsT_ofU (df := df) hA hT hsz (k := 0) (by simp) hS
  have h := wpAny_parT (V := nth Vs) hA hT hW (fun i _ _ _ _ hf h => hV.nth i _ _ _ hf h) hS' hD (l ++ zs).toArray.size (Array.replicate (l ++ zs).toArray.size false) (fun i => ((l[i]?).bind (·.dst)).elim undef fun d => t.getD d undef) { w with drawn := w.drawn + 1 } (by simp) (fun i _ hi => by simp at hi; simp [Array.getElem?_replicate, hi]) (fun j o _ hj => by rw [Array.getElem?_replicate] at hj; split at hj <;> cases hj)
    (by simp) ((Fr.refl L w).drewN 1) (fun i _ hi => by rw [Array.getElem?_replicate] at hi; split at hi <;> cases hi)
  rw [fill_id] at h
  · exact h
  · intro i o d ho hd
    rw [Nat.zero_add, ho]
    simp [hd]
end Go.Proofs.YtodlbajpcbdbaaaDoor
namespace Go.Proofs.YtodlbajpcbdbaaaDoor
open Go.RowKit Go.Shelf
set_option linter.unusedVariables false
set_option linter.unusedSimpArgs false
set_option maxRecDepth 100000

theorem Src.two {w : World} {a b : Value} {t : TypeId} : Src 2 [a, b] (w.alloc (.cells #[a, b] t)) (.slice (some ⟨w.heap.size, 0, none⟩) 2 2) :=
  .inr ⟨_, _, rfl, fun j u hj => by rw [Go.WideShapes.add_plain, Nat.zero_add]; exact (Blk.new w #[a, b] t).cell j (by simpa using hj)⟩
theorem and_fin8 : ∀ i : Fin 256, bits .and .u8 (i.val : Int) 15 = ((i.val % 16 : Nat) : Int) := by decide +kernel
theorem u8_and15 (x : Nat) (h : x < 256) : bits .and .u8 (x : Int) 15 = ((x % 16 : Nat) : Int) := and_fin8 ⟨x, h⟩
theorem str_nums (l : List UInt8) : strOfNums (bytesI l) = ⟨l.toArray⟩ := by
  unfold strOfNums bytesI
  rw [List.map_map]
  congr 2
  conv => rhs; rw [← List.map_id l]
  exact List.map_congr_left fun x _ => by simp
theorem conv_bts {w : World} {N : Nat} {sl : Sl} {l : List UInt8} (h : Bts N w sl (bytesI l)) : (convert 53 9 (.slice sl.A sl.n sl.c)).run Tryd.prog w = .ok (.string ⟨l.toArray⟩) w := by
  by_cases h0 : l = []
  · subst h0
    obtain ⟨A, n, c⟩ := sl
    have hn := h.n
    simp [bytesI] at hn
    subst hn
    cases A with
    | none => exact run_convert_bytes_nil (P := Tryd.prog) w 53 5 Tryd.underlying53 Tryd.underlying5 0 c 9 Tryd.underlying9
    | some a => 
      obtain ⟨b, off, sp⟩ := a
      simp [convert, run_underlying Tryd.underlying53, run_underlying Tryd.underlying9, run_underlying Tryd.underlying5, loadCells, loadCellsFrom]
      rfl
  · have hpos : 0 < l.length := List.length_pos_iff.2 h0
    obtain ⟨b, off, hA, hc⟩ := h.1.at' 0 (by simpa [bytesI] using hpos)
    rw [hA]
    have hn := h.n
    have := run_convert_bytes_arg (P := Tryd.prog) w 53 5 Tryd.underlying53 Tryd.underlying5 b off sl.n sl.c (bytesI l) (by rw [hn]) (fun i hi => by
      rw [hn] at hi
      obtain ⟨b', off', hA', hc'⟩ := h.1.at' i hi
      rw [hA] at hA'
      cases hA'
      rw [hc']
      simp [List.getD, hi]) 9 Tryd.underlying9
    rw [this, str_nums]
set_option maxRecDepth 100000 in
set_option maxHeartbeats 4000000 in
theorem r28_Hex (w : World) (N : Nat) (sl : Sl) (l : List UInt8) (h : Bts N w sl (bytesI l)) (hl : l.length ≤ 1000000) :
    Calls Tryd.prog 56 #[.slice sl.A sl.n sl.c] w fun e w' => e = .returned (.string ⟨(hexM l).toArray⟩) ∧ Fr [] w w' := by
  obtain ⟨i0, hi0, hz0, hz1, hz2⟩ := info_parts (show (Tryd.prog.info? 5).map (fun i => (i.zero, i.size, i.bytes)) = some (some (.int .u8 0), 1, 1) by kernel_rfl)
  have hun : Tryd.prog.underlying 53 = some (.slice 5) := Tryd.underlying53
  have hn : sl.n = l.length := by rw [h.n]; simp [bytesI]
  obtain ⟨A, n, c⟩ := sl
  simp only at hn
  subst hn
  by_cases h0 : l = []
  · subst h0
    go_enter Tryd.func56, Tryd.ntmps56
    go_wp2
    go_ret
    exact ⟨rfl, Fr.refl _ _⟩
  · have hpos : 0 < l.length := List.length_pos_iff.2 h0
    have HM : Hid (hexM l = hexL l) := Lib.hid (by unfold hexM; rw [if_neg h0])
    have q0 : ((l.length : Int) == 0) = false := by rw [beq_eq_false_iff_ne]; omega
    have H := Lib.hid h
    clear h h0
    go_enter Tryd.func56, Tryd.ntmps56
    go_wp2
    clear q0
    go_loopw [3, 4] (fun o i wr => ∃ (k : Nat) (sl : Sl), o = .slice sl.A sl.n sl.c ∧ i = .int .i64 (k : Int) ∧ k ≤ l.length ∧ wr.ownsRow w.heap.size 5 1 sl.v (2 * k) ((bytesI (hexL (l.take k))).map (Value.int .u8)) ∧ Fr [] w wr) (fun _ i _ => l.length - (intOf i).toNat)
    case atStart => exact ⟨0, Sl.nil, rfl, rfl, by omega, World.ownsRow_nil _ _ _ _, Fr.refl _ _⟩
    case round =>
      obtain ⟨k, sl, rfl, rfl, hk, hown, hf⟩ := hrel
      have HK := Lib.hid (And.intro hown hf)
      clear hown hf
      by_cases hlt : k < l.length
      · have d1 : (k : Int) < (l.length : Int) := by omega
        obtain ⟨b, off, hA, hc⟩ := H.out.1.at' k (by simpa [bytesI] using hlt)
        simp only at hA
        subst hA
        simp only [bytesI, List.getElem_map] at hc
        obtain ⟨x, hx⟩ : ∃ x, l[k].toNat = x := ⟨_, rfl⟩
        have hx2 : x < 256 := by rw [← hx]; exact l[k].toNat_lt
        rw [hx] at hc
        obtain ⟨y, hy⟩ : ∃ y, x / 16 = y := ⟨_, rfl⟩
        obtain ⟨z, hz⟩ : ∃ z, x % 16 = z := ⟨_, rfl⟩
        have ey : (x : Int) / 16 = (y : Int) := by omega
        have ez : bits .and .u8 (x : Int) 15 = (z : Int) := by rw [u8_and15 x hx2, hz]
        have hy2 : y < 16 := by omega
        have dy : (y : Int) < 16 := by omega
        have dz : (z : Int) < 16 := by omega
        have hzz : z < 16 := by omega
        have k0 : ∀ wx, Fr [] wr wx → wx.cell? ⟨b, off + k, none⟩ = some (.int .u8 (x : Int)) := fun wx f => f.cell (HK.out.2.cell hc (by simp)) (by simp)
        have HX := Lib.hid (And.intro hx (And.intro hy hz))
        clear hc hx hy hz
        go_upto_region 7 with fail
        refine wp_region_keepsU [] [Is (.slice sl.A sl.n sl.c), Is (.slice (some ⟨b, off, none⟩) l.length c), Is (.int .i64 (k : Int)), Is (.pointer (some ⟨b, off + k, none⟩)), Is (.int .u8 (x : Int)), Is (.int .u8 (y : Int)), Is (.int .u8 ((hexD y).toNat : Int)), Is (.slice (some ⟨b, off, none⟩) l.length c), Is (.int .i64 (k : Int)), Is (.pointer (some ⟨b, off + k, none⟩)), Is (.int .u8 (x : Int)), Is (.int .u8 (z : Int)), Is (.int .u8 ((hexD z).toNat : Int)), Src 2 [.int .u8 ((hexD y).toNat : Int), .int .u8 ((hexD z).toNat : Int)]] 14 (by kernel_rfl) (by kernel_rfl) (by kernel_rfl) (by kernel_rfl) (by kernel_rfl) (by kernel_rfl) ?hV ?hS ?hD
        case hV =>
          repeat (first | exact trivial | exact Is.keeps _ | exact Any.keeps | exact IsSl.keeps _ _ _ | exact Src.keeps | refine And.intro ?_ ?_)
        case hS =>
          (repeat' (first | exact trivial | refine And.intro ?_ ?_))
          all_goals (as_aux_lemma =>
            intro ac wx hf hs hp K hK
            simp only [zA, Region.binds, Nat.reduceAdd] at hp
            have e0 := hs 0 (by kernel_rfl)
            have e3 := hs 3 (by kernel_rfl)
            have e4 := hs 4 (by kernel_rfl)
            simp only [Array.getD_eq_getD_getElem?, List.getElem?_toArray, List.getElem?_cons_succ, List.getElem?_cons_zero, Option.getD_some] at e0 e3 e4
            clear hs
            have cx0 := k0 wx hf
            have hxy := hexDs_get y hy2
            have hxz := hexDs_get z hzz
            clear hf
            (try simp only [hp])
            go_simp
            try dsimp only
            first | (refine hK.out _ _ ?_ ?_; (first | exact Fr.refl _ _ | exact (Fr.refl _ _).alloc _); (simp only [nth]; (first | (unfold Is; rfl) | (unfold Any; exact trivial) | exact IsSl.new _ _ _ _ | exact Src.two | (rw [show ({ data := #[48, 49, 50, 51, 52, 53, 54, 55, 56, 57, 97, 98, 99, 100, 101, 102] } : ByteArray)[y] = hexD y from hexDs_get y hy2 hy2]; unfold Is; rfl) | (rw [show ({ data := #[48, 49, 50, 51, 52, 53, 54, 55, 56, 57, 97, 98, 99, 100, 101, 102] } : ByteArray)[z] = hexD z from hexDs_get z hzz hzz]; unfold Is; rfl)))))
        case hD =>
          as_aux_lemma =>
          intro xv wx hf hp
          simp only [List.take_succ_cons, List.take_zero, List.drop_succ_cons, List.drop_zero, fill, List.setIfInBounds_toArray, List.set_cons_zero, List.set_cons_succ, Nat.reduceAdd, Act.put]
          simp only [List.range_eq_range', List.range'_succ, List.range'_zero, Nat.zero_add, Nat.add_zero, Nat.reduceAdd, holds, nth, Is, Any, true_and, and_true] at hp
          obtain ⟨p0, -, -, -, -, -, -, -, -, -, -, -, -, p13⟩ := hp
          simp only [p0]
          have HS := Lib.hid (And.intro p13 hf)
          generalize xv 13 = nw at HS ⊢
          have hsz := (HK.out.2.tr hf).size
          have ho := own_fr HK.out.1 hf
          have h20 : 2 * k ≤ 4000000 := by omega
          clear p0 p13 hf k0 ey ez
          go_wp2_with (at_builtin; refine wpList_append_src rfl _ _ 53 rfl (w.heap.size) 5 i0 (.int .u8 0) 1 1 hun hi0 hz0 hz1 hz2 rfl (by decide) _ _ _ rfl ho _ 2 _ rfl HS.out.1 rfl (by intro u hu; simp at hu; rcases hu with rfl | rfl <;> rfl) (by unfold maxLen; omega) (by omega) hsz ?_)
          intro v' w4 hown4 hgrow
          have f4 : Fr [] w w4 := (HK.out.2.tr HS.out.2).grown hgrow (fun k hk => .inr (ho.lt k hk).1)
          obtain ⟨sl', rfl⟩ := own_sl' hown4
          have HO4 : Hid (w4.ownsRow w.heap.size 5 1 sl'.v (2 * (k + 1)) ((bytesI (hexL (l.take (k + 1)))).map (Value.int .u8)) ∧ Fr [] w w4) := Lib.hid ⟨by
            obtain ⟨e1, e2, e3⟩ := HX.out
            rw [hexL_take l k hlt, e1, e2, e3, show 2 * (k + 1) = 2 * k + 2 by omega]
            simpa only [bytesI, List.map_append, List.map_cons, List.map_nil, List.append_assoc, List.cons_append, List.nil_append] using hown4, f4⟩
          clear hown4 hgrow f4 ho hsz
          go_wp2
          go_roundw
          case rel => exact ⟨k + 1, sl', rfl, by go_num, by omega, HO4.out.1, HO4.out.2⟩
          case measure => simp [intOf]; omega
      · have hke : k = l.length := by omega
        subst hke
        have hb : Bts 0 wr sl (bytesI (hexL l)) := by
          have ho := HK.out.1
          rw [List.take_length] at ho
          exact Bts.own (by rw [show (bytesI (hexL l)).length = 2 * l.length by simp [bytesI, hexL_len]]; exact ho) (bytesI_wf _) 0
        have hcv := conv_bts hb
        have HF := Lib.hid HK.out.2
        clear hb
        go_wp2
        go_ret
        exact ⟨by rw [HM.out]; rfl, HF.out⟩
end Go.Proofs.YtodlbajpcbdbaaaDoor
namespace Go.Proofs.YtodlbajpcbdbaaaDoor
open Go.RowKit Go.Shelf
set_option linter.unusedVariables false
set_option linter.unusedSimpArgs false
set_option maxRecDepth 100000

theorem str_app (a b : List UInt8) : (⟨a.toArray⟩ : ByteArray) ++ ⟨b.toArray⟩ = ⟨(a ++ b).toArray⟩ := by
  apply ByteArray.ext
  simp [ByteArray.data_append]
/-- The words behind the first one. -/
def tailM (e : EV) (cs : List UInt8) : List UInt8 := cs.flatMap fun c => 32 :: wordF e c
theorem tailM_snoc (e : EV) (cs : List UInt8) (c : UInt8) : tailM e (cs ++ [c]) = tailM e cs ++ 32 :: wordF e c := by simp [tailM]
theorem join_tail (x : List UInt8) : ∀ L : List (List UInt8), Lib.join (x :: L) [32] = x ++ L.flatMap (32 :: ·)
  | [] => by rw [Lib.join_one]; simp
  | y :: r => by
    rw [join_cons2, join_tail y r]
    simp
theorem tailM_len (e : EV) (hl : e.b.length ≤ 1000000) (ho : e.Ok) : ∀ cs : List UInt8, (tailM e cs).length ≤ cs.length * 2000003
  | [] => by simp [tailM]
  | c :: r => by
    have h1 := wordF_len e c hl ho
    have h2 := tailM_len e hl ho r
    unfold tailM at h2 ⊢
    rw [List.flatMap_cons, List.length_append, List.length_cons, List.length_cons, Nat.succ_mul]
    omega
/-- The reference's line, without its end. -/
def lineW (e : EV) : List UInt8 := (wordS e.d).bytes ++ tailM e (hasS e.d).bytes
theorem lineW_line {e : EV} {s : SH} (h : findD e.d = some s) : lineW e ++ [10] = lineE s e := by
  unfold lineW lineE wordsE wordS hasS
  rw [h, join_tail]
  simp only [List.flatMap_map]
  rfl
theorem shape_sizes (d : Int) : (wordS d).size ≤ 10 ∧ (hasS d).size ≤ 6 ∧ ∀ c ∈ (hasS d).bytes, c ∈ letters := by
  cases h : findD d with
  | none => unfold wordS hasS; rw [h]; exact ⟨by decide, by decide, fun c hc => by cases hc⟩
  | some s =>
    have hs := shape_ok (List.mem_of_find?_eq_some h)
    unfold wordS hasS
    rw [h]
    exact ⟨hs.2.2.2.2.2, hs.2.2.2.2.1, hs.1⟩
set_option maxRecDepth 100000 in
set_option maxHeartbeats 8000000 in
theorem r28_line (w : World) (e : EV) (sl : Sl) (hb : Ints .u8 w sl.v (bytesI e.b)) (hl : e.b.length ≤ 1000000) (ho : e.Ok) :
    Calls Tryd.prog 38 #[.agg (e.arr sl)] w fun r w' => r = .returned (.string ⟨(lineW e).toArray⟩) ∧ Fr [] w w' := by
  have HB0 := Lib.hid (And.intro hb hl)
  have HO := Lib.hid ho
  obtain ⟨hw10, hx6, hxl⟩ := shape_sizes e.d
  have h1e : Blk (w.alloc (.cells (e.arr sl) 55)) w.heap.size (e.arr sl) 55 := Blk.new _ _ _
  obtain ⟨E, hE⟩ : ∃ E, w.heap.size = E := ⟨_, rfl⟩
  have HE := Lib.hid (And.intro h1e hE)
  have hsh := fun w => r28_shape w e.d
  have HLW : Hid (lineW e = (wordS e.d).bytes ++ tailM e (hasS e.d).bytes) := Lib.hid rfl
  generalize wordS e.d = sw at *
  generalize hasS e.d = sx at *
  have HX := Lib.hid hxl
  have c0 := h1e.cell 0 rfl
  simp only [EV.arr, List.getElem_toArray, List.getElem_cons_zero] at c0
  clear h1e hb hl ho hxl hE
  go_enter Tryd.func38, Tryd.ntmps38
  go_wp2_with fail
  refine (hsh _).mono ?_
  rintro e9 w1 ⟨rfl, f1⟩
  rw [HE.out.2]
  have H1 := Lib.hid (And.intro (HE.out.1.fr f1 (by simp)) (((Fr.refl [] w).alloc _).tr f1))
  clear f1 c0 hsh
  go_wp2
  go_loopw [3, 5] (fun s i wr => ∃ (q : Nat) (l : List UInt8), s = .string ⟨l.toArray⟩ ∧ i = .int .i64 (q : Int) ∧ q ≤ sx.size ∧ l = sw.bytes ++ tailM e (sx.bytes.take q) ∧ Fr [] w1 wr) (fun _ i _ => sx.size - (intOf i).toNat)
  case atStart => exact ⟨0, sw.bytes, rfl, rfl, by omega, by simp [tailM], Fr.refl _ _⟩
  case round =>
    obtain ⟨q, l, rfl, rfl, hq, hle, hf⟩ := hrel
    have HK := Lib.hid (And.intro hle hf)
    by_cases hlt : q < sx.size
    · have d1 : (q : Int) < (sx.size : Int) := by omega
      have wq : IntKind.i64.wrap ((q : Int) + 1) = (q : Int) + 1 := IntWalk.i64_in _ (by omega)
      have hcl : sx[q] ∈ letters := HX.out _ (List.getElem_mem (l := sx.data.toList) (by exact hlt))
      have hll : l.length ≤ 20000000 := by
        rw [hle, List.length_append]
        have h1 := tailM_len e HB0.out.2 HO.out (sx.bytes.take q)
        have h2 : sw.bytes.length = sw.size := rfl
        rw [List.length_take] at h1
        have h3 : min q sx.bytes.length * 2000003 ≤ 6 * 2000003 := Nat.mul_le_mul_right _ (by omega)
        omega
      have htk : sx.bytes.take (q + 1) = sx.bytes.take q ++ [sx[q]] := by
        rw [List.take_succ_eq_append_getElem (show q < sx.bytes.length from hlt)]
        rfl
      have hE2 := H1.out.1
      rw [HE.out.2] at hE2
      have hE3 := hE2.fr hf (by simp)
      have HB : Hid (Ints .u8 w1 sl.v (bytesI e.b) ∧ e.b.length ≤ 1000000) := Lib.hid ⟨HB0.out.1.fr H1.out.2, HB0.out.2⟩
      have c1 := hE3.cell 1 rfl
      have c2 := hE3.cell 2 rfl
      have c3 := hE3.cell 3 rfl
      have c4 := hE3.cell 4 rfl
      have c5 := hE3.cell 5 rfl
      have c6 := hE3.cell 6 rfl
      have c7 := hE3.cell 7 rfl
      simp only [EV.arr, List.getElem_toArray, List.getElem_cons_zero, List.getElem_cons_succ] at c1 c2 c3 c4 c5 c6 c7
      clear hle hf hE2 hE3
      simp only [letters, List.mem_cons, List.not_mem_nil, or_false] at hcl
      rcases hcl with hc | hc | hc | hc | hc | hc | hc
      · have qa102 : ((sx[q].toNat : Int) == 102) = true := by rw [hc]; rfl
        have hz : (Lib.itoa e.fr).length ≤ 21 := Lib.itoa_length_le e.fr (HO.out.fr).1 (HO.out.fr).2
        have HL : Hid (l ++ 32 :: Lib.itoa e.fr = sw.bytes ++ tailM e (sx.bytes.take (q + 1))) := Lib.hid (by rw [htk, tailM_snoc, ← List.append_assoc, ← HK.out.1, hc]; rfl)
        clear hc htk
        go_wp2_with fail
        refine (r28_Int _ e.fr HO.out.fr).mono ?_
        rintro e9 w2 ⟨rfl, f2⟩
        have HF2 := Lib.hid (HK.out.2.tr f2)
        clear f2 c1 c2 c3 c4 c5 c6 c7
        go_wp2
        go_roundw
        case rel => exact ⟨q + 1, l ++ 32 :: Lib.itoa e.fr, by rw [str_app, str_app]; simp, by go_num, by omega, HL.out, HF2.out⟩
        case measure => simp [intOf]; omega
      · have qa102 : ((sx[q].toNat : Int) == 102) = false := by rw [hc]; rfl
        have qa116 : ((sx[q].toNat : Int) == 116) = true := by rw [hc]; rfl
        have hz : (Lib.itoa e.to).length ≤ 21 := Lib.itoa_length_le e.to (HO.out.«to»).1 (HO.out.«to»).2
        have HL : Hid (l ++ 32 :: Lib.itoa e.to = sw.bytes ++ tailM e (sx.bytes.take (q + 1))) := Lib.hid (by rw [htk, tailM_snoc, ← List.append_assoc, ← HK.out.1, hc]; rfl)
        clear hc htk
        go_wp2_with fail
        refine (r28_Int _ e.to HO.out.to).mono ?_
        rintro e9 w2 ⟨rfl, f2⟩
        have HF2 := Lib.hid (HK.out.2.tr f2)
        clear f2 c1 c2 c3 c4 c5 c6 c7
        go_wp2
        go_roundw
        case rel => exact ⟨q + 1, l ++ 32 :: Lib.itoa e.to, by rw [str_app, str_app]; simp, by go_num, by omega, HL.out, HF2.out⟩
        case measure => simp [intOf]; omega
      · have qa102 : ((sx[q].toNat : Int) == 102) = false := by rw [hc]; rfl
        have qa116 : ((sx[q].toNat : Int) == 116) = false := by rw [hc]; rfl
        have qa115 : ((sx[q].toNat : Int) == 115) = true := by rw [hc]; rfl
        have hz : (Lib.itoa e.sap).length ≤ 21 := Lib.itoa_length_le e.sap (HO.out.sap).1 (HO.out.sap).2
        have HL : Hid (l ++ 32 :: Lib.itoa e.sap = sw.bytes ++ tailM e (sx.bytes.take (q + 1))) := Lib.hid (by rw [htk, tailM_snoc, ← List.append_assoc, ← HK.out.1, hc]; rfl)
        clear hc htk
        go_wp2_with fail
        refine (r28_Int _ e.sap HO.out.sap).mono ?_
        rintro e9 w2 ⟨rfl, f2⟩
        have HF2 := Lib.hid (HK.out.2.tr f2)
        clear f2 c1 c2 c3 c4 c5 c6 c7
        go_wp2
        go_roundw
        case rel => exact ⟨q + 1, l ++ 32 :: Lib.itoa e.sap, by rw [str_app, str_app]; simp, by go_num, by omega, HL.out, HF2.out⟩
        case measure => simp [intOf]; omega
      · have qa102 : ((sx[q].toNat : Int) == 102) = false := by rw [hc]; rfl
        have qa116 : ((sx[q].toNat : Int) == 116) = false := by rw [hc]; rfl
        have qa115 : ((sx[q].toNat : Int) == 115) = false := by rw [hc]; rfl
        have qa97 : ((sx[q].toNat : Int) == 97) = true := by rw [hc]; rfl
        have hz : (Lib.itoa e.far).length ≤ 21 := Lib.itoa_length_le e.far (HO.out.far).1 (HO.out.far).2
        have HL : Hid (l ++ 32 :: Lib.itoa e.far = sw.bytes ++ tailM e (sx.bytes.take (q + 1))) := Lib.hid (by rw [htk, tailM_snoc, ← List.append_assoc, ← HK.out.1, hc]; rfl)
        clear hc htk
        go_wp2_with fail
        refine (r28_Int _ e.far HO.out.far).mono ?_
        rintro e9 w2 ⟨rfl, f2⟩
        have HF2 := Lib.hid (HK.out.2.tr f2)
        clear f2 c1 c2 c3 c4 c5 c6 c7
        go_wp2
        go_roundw
        case rel => exact ⟨q + 1, l ++ 32 :: Lib.itoa e.far, by rw [str_app, str_app]; simp, by go_num, by omega, HL.out, HF2.out⟩
        case measure => simp [intOf]; omega
      · have qa102 : ((sx[q].toNat : Int) == 102) = false := by rw [hc]; rfl
        have qa116 : ((sx[q].toNat : Int) == 116) = false := by rw [hc]; rfl
        have qa115 : ((sx[q].toNat : Int) == 115) = false := by rw [hc]; rfl
        have qa97 : ((sx[q].toNat : Int) == 97) = false := by rw [hc]; rfl
        have qa110 : ((sx[q].toNat : Int) == 110) = true := by rw [hc]; rfl
        have hz : (Lib.itoa e.n).length ≤ 21 := Lib.itoa_length_le e.n (HO.out.n).1 (HO.out.n).2
        have HL : Hid (l ++ 32 :: Lib.itoa e.n = sw.bytes ++ tailM e (sx.bytes.take (q + 1))) := Lib.hid (by rw [htk, tailM_snoc, ← List.append_assoc, ← HK.out.1, hc]; rfl)
        clear hc htk
        go_wp2_with fail
        refine (r28_Int _ e.n HO.out.n).mono ?_
        rintro e9 w2 ⟨rfl, f2⟩
        have HF2 := Lib.hid (HK.out.2.tr f2)
        clear f2 c1 c2 c3 c4 c5 c6 c7
        go_wp2
        go_roundw
        case rel => exact ⟨q + 1, l ++ 32 :: Lib.itoa e.n, by rw [str_app, str_app]; simp, by go_num, by omega, HL.out, HF2.out⟩
        case measure => simp [intOf]; omega
      · have qa102 : ((sx[q].toNat : Int) == 102) = false := by rw [hc]; rfl
        have qa116 : ((sx[q].toNat : Int) == 116) = false := by rw [hc]; rfl
        have qa115 : ((sx[q].toNat : Int) == 115) = false := by rw [hc]; rfl
        have qa97 : ((sx[q].toNat : Int) == 97) = false := by rw [hc]; rfl
        have qa110 : ((sx[q].toNat : Int) == 110) = false := by rw [hc]; rfl
        have qa112 : ((sx[q].toNat : Int) == 112) = true := by rw [hc]; rfl
        cases hpo : e.po with
        | true =>
          rw [hpo] at c6
          have HL : Hid (l ++ 32 :: [49] = sw.bytes ++ tailM e (sx.bytes.take (q + 1))) := Lib.hid (by rw [htk, tailM_snoc, ← List.append_assoc, ← HK.out.1, hc]; unfold wordF; rw [if_pos rfl, hpo]; rfl)
          clear hc htk hpo
          go_wp2
          go_roundw
          case rel => exact ⟨q + 1, l ++ 32 :: [49], by rw [str_app], by go_num, by omega, HL.out, HK.out.2⟩
          case measure => simp [intOf]; omega
        | false =>
          rw [hpo] at c6
          have HL : Hid (l ++ 32 :: [48] = sw.bytes ++ tailM e (sx.bytes.take (q + 1))) := Lib.hid (by rw [htk, tailM_snoc, ← List.append_assoc, ← HK.out.1, hc]; unfold wordF; rw [if_pos rfl, hpo]; rfl)
          clear hc htk hpo
          go_wp2
          go_roundw
          case rel => exact ⟨q + 1, l ++ 32 :: [48], by rw [str_app], by go_num, by omega, HL.out, HK.out.2⟩
          case measure => simp [intOf]; omega
      · have qa102 : ((sx[q].toNat : Int) == 102) = false := by rw [hc]; rfl
        have qa116 : ((sx[q].toNat : Int) == 116) = false := by rw [hc]; rfl
        have qa115 : ((sx[q].toNat : Int) == 115) = false := by rw [hc]; rfl
        have qa97 : ((sx[q].toNat : Int) == 97) = false := by rw [hc]; rfl
        have qa110 : ((sx[q].toNat : Int) == 110) = false := by rw [hc]; rfl
        have qa112 : ((sx[q].toNat : Int) == 112) = false := by rw [hc]; rfl
        have qa98 : ((sx[q].toNat : Int) == 98) = true := by rw [hc]; rfl
        have hz : (hexM e.b).length ≤ 2000002 := by have := wordF_len e 98 HB.out.2 HO.out; exact this
        have HL : Hid (l ++ 32 :: hexM e.b = sw.bytes ++ tailM e (sx.bytes.take (q + 1))) := Lib.hid (by rw [htk, tailM_snoc, ← List.append_assoc, ← HK.out.1, hc]; rfl)
        clear hc htk
        have hbx : Bts wr.heap.size wr sl (bytesI e.b) := Bts.arg (HB.out.1.fr HK.out.2)
        have hhx := r28_Hex wr wr.heap.size sl e.b hbx HB.out.2
        clear hbx
        go_wp2_with fail
        refine hhx.mono ?_
        rintro e9 w2 ⟨rfl, f2⟩
        have HF2 := Lib.hid (HK.out.2.tr f2)
        clear f2 hhx c1 c2 c3 c4 c5 c6 c7
        go_wp2
        go_roundw
        case rel => exact ⟨q + 1, l ++ 32 :: hexM e.b, by rw [str_app, str_app]; simp, by go_num, by omega, HL.out, HF2.out⟩
        case measure => simp [intOf]; omega
    · have hqe : q = sx.size := by omega
      have HT : Hid (l = lineW e) := Lib.hid (by rw [HLW.out, hle, hqe, List.take_of_length_le (show sx.bytes.length ≤ sx.size from Nat.le_refl _)])
      clear hle hf
      go_wp2
      go_ret
      exact ⟨by rw [← HT.out]; rfl, H1.out.2.tr HK.out.2⟩
end Go.Proofs.YtodlbajpcbdbaaaDoor
namespace Go.Proofs.YtodlbajpcbdbaaaDoor
open Go.RowKit Go.Shelf
set_option linter.unusedVariables false
set_option linter.unusedSimpArgs false
set_option maxRecDepth 100000

def FieldPost (w : World) (E : Nat) (ev : EV) (c : UInt8) (l : List UInt8) (e : Ending) (w' : World) : Prop := (match setF ev c l with
  | some e' => e = .returned (.bool true) ∧ ∃ sl', Blk w' E (e'.arr sl') 55 ∧ Bts 0 w' sl' (bytesI e'.b)
  | none => e = .returned (.bool false)) ∧ Fr [E] w w'
theorem FieldPost.mk {w : World} {E : Nat} {ev : EV} {c : UInt8} {l : List UInt8} {e : Ending} {w' : World} (h : match setF ev c l with
  | some e' => e = .returned (.bool true) ∧ ∃ sl', Blk w' E (e'.arr sl') 55 ∧ Bts 0 w' sl' (bytesI e'.b)
  | none => e = .returned (.bool false)) (f : Fr [E] w w') : FieldPost w E ev c l e w' := ⟨h, f⟩
set_option maxRecDepth 100000 in
set_option maxHeartbeats 8000000 in
theorem r28_field (w : World) (E : Nat) (ev : EV) (sl : Sl) (c : UInt8) (s : ByteArray) (hb : Blk w E (ev.arr sl) 55) (ht : Bts 0 w sl (bytesI ev.b)) (hc : c ∈ letters) (hs : s.size ≤ 1000000) :
    Calls Tryd.prog 47 #[.pointer (some ⟨E, 0, none⟩), .int .u8 (c.toNat : Int), .string s] w (FieldPost w E ev c s.bytes) := by
  have HB := Lib.hid (And.intro hb ht)
  clear ht
  simp only [letters, List.mem_cons, List.not_mem_nil, or_false] at hc
  rcases hc with hc | hc | hc | hc | hc | hc | hc
  · subst hc
    have hn := r28_number w s
    go_enter Tryd.func47, Tryd.ntmps47
    go_wp2_with fail
    refine hn.mono ?_
    rintro e w1 ⟨hp, f1⟩
    have hb1 := HB.out.1.fr f1 (by simp)
    have H1 := Lib.hid (And.intro f1 trivial)
    have fk := hb1.free 1
    have ck := hb1.cell 1 rfl
    simp only [EV.arr, List.getElem_toArray, List.getElem_cons_zero, List.getElem_cons_succ] at ck
    unfold NumPost at hp
    clear f1 hn
    cases hm : numM s.bytes with
    | some v =>
      rw [hm] at hp
      dsimp only at hp
      subst hp
      have HV : Hid (setF ev 102 s.bytes = some { ev with fr := v }) := Lib.hid (by unfold setF; rw [if_neg (by decide), if_neg (by decide), hm]; rfl)
      clear hm
      have HB2 : Hid (Fr [E] w (w1.setCell ⟨E, 1, none⟩ (.int .i64 v)) ∧ Blk (w1.setCell ⟨E, 1, none⟩ (.int .i64 v)) E (({ ev with fr := v } : EV).arr sl) 55) := Lib.hid ⟨(H1.out.1.mono (by simp)).setCell _ (.inl (by simp)), hb1.set 1 _ rfl⟩
      clear hb1
      go_wp2
      go_ret
      refine FieldPost.mk ?_ HB2.out.1
      rw [HV.out]
      exact ⟨rfl, sl, HB2.out.2, HB.out.2.frL HB2.out.1 (fun x hx => by simp at hx; subst hx; exact ⟨Nat.zero_le _, HB.out.1.noB (by decide)⟩)⟩
    | none =>
      rw [hm] at hp
      dsimp only at hp
      subst hp
      have HV : Hid (setF ev 102 s.bytes = none) := Lib.hid (by unfold setF; rw [if_neg (by decide), if_neg (by decide), hm])
      clear hm
      have HB2 : Hid (Fr [E] w (w1.setCell ⟨E, 1, none⟩ (.int .i64 0)) ∧ Blk (w1.setCell ⟨E, 1, none⟩ (.int .i64 0)) E (({ ev with fr := 0 } : EV).arr sl) 55) := Lib.hid ⟨(H1.out.1.mono (by simp)).setCell _ (.inl (by simp)), hb1.set 1 _ rfl⟩
      clear hb1
      go_wp2
      go_ret
      refine FieldPost.mk ?_ HB2.out.1
      rw [HV.out]
      rfl
  · subst hc
    have hn := r28_number w s
    go_enter Tryd.func47, Tryd.ntmps47
    go_wp2_with fail
    refine hn.mono ?_
    rintro e w1 ⟨hp, f1⟩
    have hb1 := HB.out.1.fr f1 (by simp)
    have H1 := Lib.hid (And.intro f1 trivial)
    have fk := hb1.free 2
    have ck := hb1.cell 2 rfl
    simp only [EV.arr, List.getElem_toArray, List.getElem_cons_zero, List.getElem_cons_succ] at ck
    unfold NumPost at hp
    clear f1 hn
    cases hm : numM s.bytes with
    | some v =>
      rw [hm] at hp
      dsimp only at hp
      subst hp
      have HV : Hid (setF ev 116 s.bytes = some { ev with «to» := v }) := Lib.hid (by unfold setF; rw [if_neg (by decide), if_neg (by decide), hm]; rfl)
      clear hm
      have HB2 : Hid (Fr [E] w (w1.setCell ⟨E, 2, none⟩ (.int .i64 v)) ∧ Blk (w1.setCell ⟨E, 2, none⟩ (.int .i64 v)) E (({ ev with «to» := v } : EV).arr sl) 55) := Lib.hid ⟨(H1.out.1.mono (by simp)).setCell _ (.inl (by simp)), hb1.set 2 _ rfl⟩
      clear hb1
      go_wp2
      go_ret
      refine FieldPost.mk ?_ HB2.out.1
      rw [HV.out]
      exact ⟨rfl, sl, HB2.out.2, HB.out.2.frL HB2.out.1 (fun x hx => by simp at hx; subst hx; exact ⟨Nat.zero_le _, HB.out.1.noB (by decide)⟩)⟩
    | none =>
      rw [hm] at hp
      dsimp only at hp
      subst hp
      have HV : Hid (setF ev 116 s.bytes = none) := Lib.hid (by unfold setF; rw [if_neg (by decide), if_neg (by decide), hm])
      clear hm
      have HB2 : Hid (Fr [E] w (w1.setCell ⟨E, 2, none⟩ (.int .i64 0)) ∧ Blk (w1.setCell ⟨E, 2, none⟩ (.int .i64 0)) E (({ ev with «to» := 0 } : EV).arr sl) 55) := Lib.hid ⟨(H1.out.1.mono (by simp)).setCell _ (.inl (by simp)), hb1.set 2 _ rfl⟩
      clear hb1
      go_wp2
      go_ret
      refine FieldPost.mk ?_ HB2.out.1
      rw [HV.out]
      rfl
  · subst hc
    have hn := r28_number w s
    go_enter Tryd.func47, Tryd.ntmps47
    go_wp2_with fail
    refine hn.mono ?_
    rintro e w1 ⟨hp, f1⟩
    have hb1 := HB.out.1.fr f1 (by simp)
    have H1 := Lib.hid (And.intro f1 trivial)
    have fk := hb1.free 4
    have ck := hb1.cell 4 rfl
    simp only [EV.arr, List.getElem_toArray, List.getElem_cons_zero, List.getElem_cons_succ] at ck
    unfold NumPost at hp
    clear f1 hn
    cases hm : numM s.bytes with
    | some v =>
      rw [hm] at hp
      dsimp only at hp
      subst hp
      have HV : Hid (setF ev 115 s.bytes = some { ev with sap := v }) := Lib.hid (by unfold setF; rw [if_neg (by decide), if_neg (by decide), hm]; rfl)
      clear hm
      have HB2 : Hid (Fr [E] w (w1.setCell ⟨E, 4, none⟩ (.int .i64 v)) ∧ Blk (w1.setCell ⟨E, 4, none⟩ (.int .i64 v)) E (({ ev with sap := v } : EV).arr sl) 55) := Lib.hid ⟨(H1.out.1.mono (by simp)).setCell _ (.inl (by simp)), hb1.set 4 _ rfl⟩
      clear hb1
      go_wp2
      go_ret
      refine FieldPost.mk ?_ HB2.out.1
      rw [HV.out]
      exact ⟨rfl, sl, HB2.out.2, HB.out.2.frL HB2.out.1 (fun x hx => by simp at hx; subst hx; exact ⟨Nat.zero_le _, HB.out.1.noB (by decide)⟩)⟩
    | none =>
      rw [hm] at hp
      dsimp only at hp
      subst hp
      have HV : Hid (setF ev 115 s.bytes = none) := Lib.hid (by unfold setF; rw [if_neg (by decide), if_neg (by decide), hm])
      clear hm
      have HB2 : Hid (Fr [E] w (w1.setCell ⟨E, 4, none⟩ (.int .i64 0)) ∧ Blk (w1.setCell ⟨E, 4, none⟩ (.int .i64 0)) E (({ ev with sap := 0 } : EV).arr sl) 55) := Lib.hid ⟨(H1.out.1.mono (by simp)).setCell _ (.inl (by simp)), hb1.set 4 _ rfl⟩
      clear hb1
      go_wp2
      go_ret
      refine FieldPost.mk ?_ HB2.out.1
      rw [HV.out]
      rfl
  · subst hc
    have hn := r28_number w s
    go_enter Tryd.func47, Tryd.ntmps47
    go_wp2_with fail
    refine hn.mono ?_
    rintro e w1 ⟨hp, f1⟩
    have hb1 := HB.out.1.fr f1 (by simp)
    have H1 := Lib.hid (And.intro f1 trivial)
    have fk := hb1.free 5
    have ck := hb1.cell 5 rfl
    simp only [EV.arr, List.getElem_toArray, List.getElem_cons_zero, List.getElem_cons_succ] at ck
    unfold NumPost at hp
    clear f1 hn
    cases hm : numM s.bytes with
    | some v =>
      rw [hm] at hp
      dsimp only at hp
      subst hp
      have HV : Hid (setF ev 97 s.bytes = some { ev with far := v }) := Lib.hid (by unfold setF; rw [if_neg (by decide), if_neg (by decide), hm]; rfl)
      clear hm
      have HB2 : Hid (Fr [E] w (w1.setCell ⟨E, 5, none⟩ (.int .i64 v)) ∧ Blk (w1.setCell ⟨E, 5, none⟩ (.int .i64 v)) E (({ ev with far := v } : EV).arr sl) 55) := Lib.hid ⟨(H1.out.1.mono (by simp)).setCell _ (.inl (by simp)), hb1.set 5 _ rfl⟩
      clear hb1
      go_wp2
      go_ret
      refine FieldPost.mk ?_ HB2.out.1
      rw [HV.out]
      exact ⟨rfl, sl, HB2.out.2, HB.out.2.frL HB2.out.1 (fun x hx => by simp at hx; subst hx; exact ⟨Nat.zero_le _, HB.out.1.noB (by decide)⟩)⟩
    | none =>
      rw [hm] at hp
      dsimp only at hp
      subst hp
      have HV : Hid (setF ev 97 s.bytes = none) := Lib.hid (by unfold setF; rw [if_neg (by decide), if_neg (by decide), hm])
      clear hm
      have HB2 : Hid (Fr [E] w (w1.setCell ⟨E, 5, none⟩ (.int .i64 0)) ∧ Blk (w1.setCell ⟨E, 5, none⟩ (.int .i64 0)) E (({ ev with far := 0 } : EV).arr sl) 55) := Lib.hid ⟨(H1.out.1.mono (by simp)).setCell _ (.inl (by simp)), hb1.set 5 _ rfl⟩
      clear hb1
      go_wp2
      go_ret
      refine FieldPost.mk ?_ HB2.out.1
      rw [HV.out]
      rfl
  · subst hc
    have hn := r28_number w s
    go_enter Tryd.func47, Tryd.ntmps47
    go_wp2_with fail
    refine hn.mono ?_
    rintro e w1 ⟨hp, f1⟩
    have hb1 := HB.out.1.fr f1 (by simp)
    have H1 := Lib.hid (And.intro f1 trivial)
    have fk := hb1.free 3
    have ck := hb1.cell 3 rfl
    simp only [EV.arr, List.getElem_toArray, List.getElem_cons_zero, List.getElem_cons_succ] at ck
    unfold NumPost at hp
    clear f1 hn
    cases hm : numM s.bytes with
    | some v =>
      rw [hm] at hp
      dsimp only at hp
      subst hp
      have HV : Hid (setF ev 110 s.bytes = some { ev with n := v }) := Lib.hid (by unfold setF; rw [if_neg (by decide), if_neg (by decide), hm]; rfl)
      clear hm
      have HB2 : Hid (Fr [E] w (w1.setCell ⟨E, 3, none⟩ (.int .i64 v)) ∧ Blk (w1.setCell ⟨E, 3, none⟩ (.int .i64 v)) E (({ ev with n := v } : EV).arr sl) 55) := Lib.hid ⟨(H1.out.1.mono (by simp)).setCell _ (.inl (by simp)), hb1.set 3 _ rfl⟩
      clear hb1
      go_wp2
      go_ret
      refine FieldPost.mk ?_ HB2.out.1
      rw [HV.out]
      exact ⟨rfl, sl, HB2.out.2, HB.out.2.frL HB2.out.1 (fun x hx => by simp at hx; subst hx; exact ⟨Nat.zero_le _, HB.out.1.noB (by decide)⟩)⟩
    | none =>
      rw [hm] at hp
      dsimp only at hp
      subst hp
      have HV : Hid (setF ev 110 s.bytes = none) := Lib.hid (by unfold setF; rw [if_neg (by decide), if_neg (by decide), hm])
      clear hm
      have HB2 : Hid (Fr [E] w (w1.setCell ⟨E, 3, none⟩ (.int .i64 0)) ∧ Blk (w1.setCell ⟨E, 3, none⟩ (.int .i64 0)) E (({ ev with n := 0 } : EV).arr sl) 55) := Lib.hid ⟨(H1.out.1.mono (by simp)).setCell _ (.inl (by simp)), hb1.set 3 _ rfl⟩
      clear hb1
      go_wp2
      go_ret
      refine FieldPost.mk ?_ HB2.out.1
      rw [HV.out]
      rfl
  · subst hc
    by_cases h49 : s.bytes = [49]
    · have q1 : (s.toList == [49]) = true := by rw [ByteArray.toList_eq]; exact beq_iff_eq.2 h49
      have q2 : (s.toList == [48]) = false := by rw [ByteArray.toList_eq]; show (s.bytes == [48]) = false; rw [h49]; rfl
      have HV : Hid (setF ev 112 s.bytes = some { ev with po := true }) := Lib.hid (by unfold setF; rw [if_pos rfl, h49]; rfl)
      go_enter Tryd.func47, Tryd.ntmps47
      have fk := hb.free 6
      have ck := hb.cell 6 rfl
      simp only [EV.arr, List.getElem_toArray, List.getElem_cons_zero, List.getElem_cons_succ] at ck
      have HB2 : Hid (Fr [E] w (w.setCell ⟨E, 6, none⟩ (.bool true)) ∧ Blk (w.setCell ⟨E, 6, none⟩ (.bool true)) E (({ ev with po := true } : EV).arr sl) 55) := Lib.hid ⟨(Fr.refl _ _).setCell _ (.inl (by simp)), hb.set 6 _ rfl⟩
      clear hb h49
      go_wp2
      go_ret
      refine FieldPost.mk ?_ HB2.out.1
      rw [HV.out]
      exact ⟨rfl, sl, HB2.out.2, HB.out.2.frL HB2.out.1 (fun x hx => by simp at hx; subst hx; exact ⟨Nat.zero_le _, HB.out.1.noB (by decide)⟩)⟩
    · have q1 : (s.toList == [49]) = false := by rw [ByteArray.toList_eq, beq_eq_false_iff_ne]; exact h49
      by_cases h48 : s.bytes = [48]
      · have q2 : (s.toList == [48]) = true := by rw [ByteArray.toList_eq]; exact beq_iff_eq.2 h48
        have HV : Hid (setF ev 112 s.bytes = some { ev with po := false }) := Lib.hid (by unfold setF; rw [if_pos rfl, h48]; rfl)
        go_enter Tryd.func47, Tryd.ntmps47
        have fk := hb.free 6
        have ck := hb.cell 6 rfl
        simp only [EV.arr, List.getElem_toArray, List.getElem_cons_zero, List.getElem_cons_succ] at ck
        have HB2 : Hid (Fr [E] w (w.setCell ⟨E, 6, none⟩ (.bool false)) ∧ Blk (w.setCell ⟨E, 6, none⟩ (.bool false)) E (({ ev with po := false } : EV).arr sl) 55) := Lib.hid ⟨(Fr.refl _ _).setCell _ (.inl (by simp)), hb.set 6 _ rfl⟩
        clear hb h49 h48
        go_wp2
        go_ret
        refine FieldPost.mk ?_ HB2.out.1
        rw [HV.out]
        exact ⟨rfl, sl, HB2.out.2, HB.out.2.frL HB2.out.1 (fun x hx => by simp at hx; subst hx; exact ⟨Nat.zero_le _, HB.out.1.noB (by decide)⟩)⟩
      · have q2 : (s.toList == [48]) = false := by rw [ByteArray.toList_eq, beq_eq_false_iff_ne]; exact h48
        have HV : Hid (setF ev 112 s.bytes = none) := Lib.hid (by unfold setF; rw [if_pos rfl, if_neg h48, if_neg h49])
        go_enter Tryd.func47, Tryd.ntmps47
        have fk := hb.free 6
        have ck := hb.cell 6 rfl
        simp only [EV.arr, List.getElem_toArray, List.getElem_cons_zero, List.getElem_cons_succ] at ck
        have HB2 : Hid (Fr [E] w (w.setCell ⟨E, 6, none⟩ (.bool false)) ∧ Blk (w.setCell ⟨E, 6, none⟩ (.bool false)) E (({ ev with po := false } : EV).arr sl) 55) := Lib.hid ⟨(Fr.refl _ _).setCell _ (.inl (by simp)), hb.set 6 _ rfl⟩
        clear hb h49 h48
        go_wp2
        go_ret
        refine FieldPost.mk ?_ HB2.out.1
        rw [HV.out]
        rfl
  · subst hc
    have hr := r28_raw w s hs
    go_enter Tryd.func47, Tryd.ntmps47
    go_wp2_with fail
    refine hr.mono ?_
    rintro e w1 ⟨f1, hp⟩
    have hb1 := HB.out.1.fr f1 (by simp)
    have H1 := Lib.hid (And.intro f1 hb1)
    have fk := hb1.free 7
    have ck := hb1.cell 7 rfl
    simp only [EV.arr, List.getElem_toArray, List.getElem_cons_zero, List.getElem_cons_succ] at ck
    clear f1 hr
    cases hm : rawM s.bytes with
    | some b =>
      rw [hm] at hp
      obtain ⟨s', rfl, hbt, hbl⟩ := hp
      have HV : Hid (setF ev 98 s.bytes = some { ev with b := b }) := Lib.hid (by unfold setF; rw [if_neg (by decide), if_pos rfl, hm])
      have HB2 : Hid (Fr [E] w (w1.setCell ⟨E, 7, none⟩ (.slice s'.A s'.n s'.c)) ∧ Blk (w1.setCell ⟨E, 7, none⟩ (.slice s'.A s'.n s'.c)) E (({ ev with b := b } : EV).arr s') 55 ∧ Bts 0 (w1.setCell ⟨E, 7, none⟩ (.slice s'.A s'.n s'.c)) s' (bytesI b)) := Lib.hid ⟨(H1.out.1.mono (by simp)).setCell _ (.inl (by simp)), H1.out.2.set 7 _ rfl, hbt.frL ((Fr.refl [E] w1).setCell _ (.inl (by simp))) (fun x hx => by simp at hx; subst hx; exact ⟨Nat.zero_le _, H1.out.2.noB (by decide)⟩)⟩
      clear hm hb1 hbt hbl
      go_wp2
      go_ret
      refine FieldPost.mk ?_ HB2.out.1
      rw [HV.out]
      exact ⟨rfl, s', HB2.out.2⟩
    | none =>
      rw [hm] at hp
      dsimp only at hp
      subst hp
      have HV : Hid (setF ev 98 s.bytes = none) := Lib.hid (by unfold setF; rw [if_neg (by decide), if_pos rfl, hm])
      have HB2 : Hid (Fr [E] w (w1.setCell ⟨E, 7, none⟩ (.slice none 0 0))) := Lib.hid ((H1.out.1.mono (by simp)).setCell _ (.inl (by simp)))
      clear hm hb1
      go_wp2
      go_ret
      refine FieldPost.mk ?_ HB2.out
      rw [HV.out]
      rfl
end Go.Proofs.YtodlbajpcbdbaaaDoor
