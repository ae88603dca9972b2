/- The laws of layer 11: awake, equal rows, SapsClasses. -/
import Derived.Test.YtdmgpbochddahaaSapsJ
import Derived.BigQuiet
import Derived.Laws.BitsLemmas
namespace Go.Proofs.Ytdmgpbochddahaa
open Go.RowKit Go.Shelf Go.ChangeMaps
set_option linter.unusedVariables false
set_option linter.unusedSimpArgs false

theorem Ints.ofOwn {w : World} {B : Nat} {s : Sl} {l : List Int} (h : w.ownsRow B 3 1 s.v l.length (l.map (Value.int .i64))) (hw : ∀ x ∈ l, (Lit.int .i64 x).wf = true) : Ints .i64 w s.v l := Ints.own h hw
theorem Ints.n_ {k : IntKind} {w : World} {s : Sl} {l : List Int} (h : Ints k w s.v l) : s.n = l.length := by
  rcases h with ⟨e, rfl⟩ | ⟨A, cap, e, _⟩
  · cases s; simp [Sl.v] at e; simp [e]
  · cases s; simp [Sl.v] at e; simp [e]
theorem Ints.at_ {k : IntKind} {w : World} {s : Sl} {l : List Int} (h : Ints k w s.v l) (i : Nat) (hi : i < l.length) : ∃ b off, s.A = some ⟨b, off, none⟩ ∧ w.cell? ⟨b, off + i, none⟩ = some (.int k l[i]) := by
  rcases h with ⟨e, rfl⟩ | ⟨A, cap, e, hA⟩
  · simp at hi
  · obtain ⟨b, off, x, eA, hc, -, rfl⟩ := hA.at_ i hi
    cases eA
    cases s
    simp only [Sl.v, Value.slice.injEq] at e
    exact ⟨b, off, e.1, hc⟩

theorem law_Ints (w : World) (a b : Sl) (la lb : List Int) (ha : Ints .i64 w a.v la) (hb : Ints .i64 w b.v lb) (hn : la.length ≤ 100000) :
    Calls Try.prog 16 #[.slice a.A a.n a.c, .slice b.A b.n b.c] w fun e w' => e = .returned (.bool (la == lb)) ∧ Fr [] w w' := by
  have na := ha.n_
  have nb := hb.n_
  by_cases hl : la.length = lb.length
  · have d1 : ((la.length : Int) != (lb.length : Int)) = false := by simp [hl]
    rw [na, nb]
    go_enter Try.func16, Try.ntmps16
    clear na nb
    have HL := Lib.hid hl
    clear hl
    go_wp2
    go_loopw [5] (fun i wr => ∃ k : Nat, i = .int .i64 k ∧ k ≤ la.length ∧ la.take k = lb.take k ∧ Fr [] w wr) (fun i _ => la.length - (intOf i).toNat)
    case atStart => exact ⟨0, rfl, by omega, rfl, Fr.refl _ _⟩
    case round =>
      obtain ⟨k, rfl, hk, ht, hf⟩ := hrel
      have HT := Lib.hid ht
      clear ht
      by_cases hlt : k < la.length
      · have d2 : decide ((k : Int) < (la.length : Int)) = true := by simp; omega
        have hlb : k < lb.length := by rw [← HL.out]; exact hlt
        obtain ⟨b1, o1, e1, c1⟩ := (ha.fr hf).at_ k hlt
        obtain ⟨b2, o2, e2, c2⟩ := (hb.fr hf).at_ k hlb
        have i1 : decide ((k : Int) < (lb.length : Int)) = true := by simp; omega
        obtain ⟨x, hx⟩ : ∃ x, la[k] = x := ⟨_, rfl⟩
        obtain ⟨y, hy⟩ : ∃ y, lb[k] = y := ⟨_, rfl⟩
        rw [hx] at c1
        rw [hy] at c2
        have HX := Lib.hid hx
        have HY := Lib.hid hy
        clear hx hy
        by_cases hxy : x = y
        · subst hxy
          go_wp2
          go_quiet (fail)
          go_wp2
          go_roundw
          case rel => exact ⟨k + 1, by simp, by omega, by rw [← List.take_append_getElem hlt, ← List.take_append_getElem hlb, HT.out, HX.out, HY.out], hf.drewN _⟩
          case measure => simp [intOf]; omega
        · have d3 : (x != y) = true := by simpa using hxy
          go_wp2
          go_quiet (fail)
          go_wp2
          go_ret
          have : (la == lb) = false := by
            rw [beq_eq_false_iff_ne]
            intro e
            apply hxy
            have h1 : la[k]? = lb[k]? := by rw [e]
            rw [List.getElem?_eq_getElem hlt, List.getElem?_eq_getElem hlb] at h1
            simpa [HX.out, HY.out] using h1
          rw [this]
          exact ⟨rfl, hf.drewN _⟩
      · have d2 : decide ((k : Int) < (la.length : Int)) = false := by simp; omega
        go_wp2
        go_ret
        have : la = lb := by
          have h1 := HT.out
          rwa [List.take_of_length_le (by omega), List.take_of_length_le (by rw [← HL.out]; omega)] at h1
        rw [this]
        exact ⟨by simp, hf⟩
  · have d1 : ((la.length : Int) != (lb.length : Int)) = true := by simp; omega
    have hne : (la == lb) = false := by rw [beq_eq_false_iff_ne]; intro e; exact hl (by rw [e])
    rw [na, nb, hne]
    clear na nb hl hne
    go_enter Try.func16, Try.ntmps16
    go_wp2
    go_ret
    exact ⟨rfl, Fr.refl _ _⟩

theorem hearsM_one (x : SE) (to : Int) (h : hearsB to x.k x.gs = true) : hearsM [x] to = [x.k] := by
  unfold hearsM; rw [List.filter_cons, if_pos h]; simp [srt]
theorem hearsM_nil (to : Int) : hearsM [] to = [] := by simp [hearsM, srt]

theorem saps_awake (w : World) : Calls Try.prog 9 #[] w fun e w' => e = .returned (.bool true) ∧ Fr [] w w' := by
  go_enter Try.func9, Try.ntmps9
  go_wp2_with fail
  refine (saps_New _).mono ?_
  rintro e w1 ⟨p, b, rfl, hS, hp, hb, f1⟩
  go_wp2_with fail
  refine (Open_ok _ p b 0 [] 4 2 hS (by decide) rfl (by decide)).mono ?_
  rintro e w2 ⟨rfl, hS2, f2⟩
  simp only [List.nil_append] at hS2
  have F2 : Fr [] w w2 := f1.trans f2 (fun x hx => .inr (by simp [foot] at hx; omega))
  have hm : hearsM [⟨4, 2, w1.heap.size, [], 0⟩] 4 = [4] := hearsM_one _ _ rfl
  have hc : clsOf [⟨4, 2, w1.heap.size, [], 0⟩] 4 = 2 := rfl
  have HC := Lib.hid hc
  go_wp2_with fail
  refine (saps_Hears _ p b 1 _ 4 hS2).mono ?_
  rintro e w3 ⟨s, rfl, hown, f3⟩
  rw [hm] at hown
  have hI := Ints.ofOwn hown (by decide)
  obtain ⟨bs, os, eA, cA⟩ := hI.at_ 0 (by simp)
  have hn : s.n = 1 := hI.n_
  have hS3 := hS2.fr0 f3
  have cA' : w3.cell? ⟨bs, os, none⟩ = some (.int .i64 4) := cA
  clear cA
  obtain ⟨sA, sn, sc⟩ := s
  subst hn
  subst eA
  clear hm hc hown hI
  go_wp2_with fail
  refine (saps_Class _ p b 1 _ 4 hS3).mono ?_
  rintro e w4 ⟨rfl, rfl⟩
  rw [HC.out]
  go_wp2
  go_ret
  exact ⟨rfl, F2.tr f3⟩

/-- How it stands: at most one SAP, a, of class cl. -/
structure One (w wr : World) (p b c : Nat) (L : List SE) (a cl : Int) : Prop where
  is : IsS wr p b L c
  fr : Fr [] w wr
  new : ∀ y ∈ foot p b L, w.heap.size ≤ y
  st : (L = [] ∧ cl = 0) ∨ ∃ x, L = [x] ∧ x.k = a ∧ x.cls = cl ∧ 1 ≤ cl ∧ cl ≤ 4

def OneAt (w wr : World) (p : Nat) (a cl : Int) : Prop := ∃ b c L, One w wr p b c L a cl

theorem One.cls {w wr : World} {p b c : Nat} {L : List SE} {a cl : Int} (h : One w wr p b c L a cl) : clsOf L a = cl := by
  rcases h.st with ⟨rfl, rfl⟩ | ⟨x, rfl, rfl, rfl, _⟩
  · rfl
  · simp [clsOf, look]
theorem One.hears {w wr : World} {p b c : Nat} {L : List SE} {a cl : Int} (h : One w wr p b c L a cl) : ((hearsM L 255).length : Int) = min cl 1 := by
  rcases h.st with ⟨rfl, rfl⟩ | ⟨x, rfl, rfl, rfl, h1, _⟩
  · rw [hearsM_nil]; rfl
  · rw [hearsM_one _ _ rfl]; simp; omega

theorem lenOwn {w : World} {B : Nat} {e : TypeId} {s : Sl} {l : List Int} (h : w.ownsRow B e 1 s.v l.length (l.map (Value.int .i64))) : (s.n : Int) = (l.length : Int) := by
  rcases h.2 with ⟨e, h0⟩ | ⟨g, cap, cur, e, _⟩
  · cases s; simp [Sl.v] at e; simp [e]; omega
  · cases s; simp [Sl.v] at e; simp [e]
theorem One.on {w wr w' : World} {p b c : Nat} {L : List SE} {a cl : Int} (h : One w wr p b c L a cl) (f : Fr [] wr w') : One w w' p b c L a cl := ⟨h.is.fr0 f, h.fr.tr f, h.new, h.st⟩
set_option maxHeartbeats 1000000 in
set_option maxRecDepth 100000 in
theorem walk_SapsClasses (w : World) (sap : Int) (hs : (Lit.int .u8 sap).wf = true) (A : Option Addr) (cap : Nat) (l : List Int) (m : l.length ≤ 9223372036854775807) (hA : ArgInts .u8 w A l) :
    Calls Try.prog 3 #[.int .u8 sap, .slice A l.length cap] w fun e w' => e = .returned (.bool true) ∧ Fr [] w w' := by
  have hsb := wf_u8 hs
  have hand : ∀ z, 0 ≤ z → z < 256 → bits .and .u8 z 1 = z % 2 := fun z h0 h1 => bits_mask .u8 8 (by decide) wraps_u8 1 (by decide) z h0 h1
  clear hs
  by_cases hl : 60 < l.length
  · have d1 : decide ((60 : Int) < (l.length : Int)) = true := by simp; omega
    clear hand
    go_enter Try.func3, Try.ntmps3
    go_wp2_with fail
    refine (saps_awake _).mono ?_
    rintro e w1 ⟨rfl, f1⟩
    go_wp2
    go_ret
    exact ⟨rfl, f1⟩
  · have d1 : decide ((60 : Int) < (l.length : Int)) = false := by simp; omega
    have HA := Lib.hid hand
    clear hand
    go_enter Try.func3, Try.ntmps3
    go_wp2_with fail
    refine (saps_awake _).mono ?_
    rintro e w1 ⟨rfl, f1⟩
    go_wp2_with fail
    refine (saps_New _).mono ?_
    rintro e w2 ⟨p, b, rfl, hS, hp, hb, f2⟩
    have hs1 := f1.size
    have h0 : OneAt w w2 p (2 + 2 * (sap % 127)) 0 := ⟨b, 0, [], hS, f1.tr f2, fun y hy => by simp [foot] at hy; omega, .inl ⟨rfl, rfl⟩⟩
    clear hS hb f1 f2 hs1
    go_wp2
    have hsa : sapB (2 + 2 * (sap % 127)) = true := by unfold sapB; simp; omega
    generalize 2 + 2 * (sap % 127) = a at *
    have HSA := Lib.hid hsa
    clear hsa
    go_loopw [7, 8] (fun cv i wr => ∃ (k : Nat) (cl : Int), cv = .int .i64 cl ∧ i = .int .i64 k ∧ k ≤ l.length ∧ OneAt w wr p a cl) (fun _ i _ => l.length - (intOf i).toNat)
    case atStart => exact ⟨0, 0, rfl, rfl, by omega, h0⟩
    case round =>
      obtain ⟨k, cl, rfl, rfl, hk, b', c', L, hO⟩ := hrel
      clear h0
      by_cases hlt : k < l.length
      · have d2 : decide ((k : Int) < (l.length : Int)) = true := by simp; omega
        obtain ⟨ba, oa, z, rfl, cz, wz, ez⟩ := (hA.fr hO.fr).at_ k hlt
        have hz := wf_u8 wz
        have hand := HA.out z hz.1 (by omega)
        have hS := hO.is
        have hcl := hO.cls
        clear ez wz
        by_cases hz2 : z % 2 = 1
        · have e1 : (z % 2 == 1) = true := by simpa using hz2
          rcases hO.st with ⟨hL, hc0⟩ | ⟨x, hL, hxk, hxc, hc1, hc4⟩
          · subst hL hc0
            clear hz2 hcl
            go_wp2_with fail
            refine (Close_none _ p b' c' [] a hS rfl).mono ?_
            rintro e w6 ⟨rfl, rfl⟩
            have h6 := hO
            have hS6 := h6.is
            go_wp2_with fail
            refine (saps_Class _ p _ _ _ a hS6).mono ?_
            rintro e w7 ⟨rfl, rfl⟩
            rw [h6.cls]
            go_wp2_with fail
            refine (saps_List _ p _ _ _ hS6).mono ?_
            rintro e w8 ⟨s, rfl, hown, f8⟩
            have hsn := (lenOwn hown).trans h6.hears
            have h8 := h6.on f8
            clear hown hS6
            go_wp2
            go_roundw
            case rel => exact ⟨k + 1, 0, rfl, by simp, by omega, _, _, _, h8⟩
            case measure => simp [intOf]; omega
          · have HCL := Lib.hid hcl
            have dc : decide (0 < cl) = true := by simp; omega
            have hpos : 0 < clsOf L a := by rw [hcl]; omega
            have hoff : off_ L a = [] := by rw [hL]; simp [off_, hxk]
            clear hz2 hcl
            go_wp2_with fail
            refine (Close_ok _ p b' c' L a hS hpos).mono ?_
            rintro e w6 ⟨rfl, hS6', f6⟩
            rw [hoff] at hS6'
            have h6 : One w w6 p b' c' [] a 0 := ⟨hS6', hO.fr.trans f6 (fun y hy => .inr (hO.new y hy)), fun y hy => by simp [foot] at hy; exact hO.new y (by simp [foot]; omega), .inl ⟨rfl, rfl⟩⟩
            clear hoff hpos hS6'
            have hS6 := h6.is
            go_wp2_with fail
            refine (saps_Class _ p _ _ _ a hS6).mono ?_
            rintro e w7 ⟨rfl, rfl⟩
            rw [h6.cls]
            go_wp2_with fail
            refine (saps_List _ p _ _ _ hS6).mono ?_
            rintro e w8 ⟨s, rfl, hown, f8⟩
            have hsn := (lenOwn hown).trans h6.hears
            have h8 := h6.on f8
            clear hown hS6
            go_wp2
            go_roundw
            case rel => exact ⟨k + 1, 0, rfl, by simp, by omega, _, _, _, h8⟩
            case measure => simp [intOf]; omega
        · have e1 : (z % 2 == 1) = false := by simpa using hz2
          have hargs : argB a (1 + z / 2 % 4) = true := by unfold argB; rw [HSA.out]; simp; omega
          have hcc : 1 ≤ 1 + z / 2 % 4 ∧ 1 + z / 2 % 4 ≤ 4 := by omega
          have hq0 : 0 ≤ z / 2 % 4 := by omega
          have hq4 : z / 2 % 4 ≤ 3 := by omega
          rcases hO.st with ⟨hL, hc0⟩ | ⟨x, hL, hxk, hxc, hc1, hc4⟩
          · subst hL hc0
            clear hz2 hcl
            go_wp2_with fail
            refine (Open_ok _ p b' c' [] a _ hS hargs rfl (by decide)).mono ?_
            rintro e w6 ⟨rfl, hS6', f6⟩
            have hws := hO.fr.size
            have h6 : One w w6 p b' (c' + 1) [⟨a, 1 + z / 2 % 4, wr.heap.size, [], c'⟩] a (1 + z / 2 % 4) := ⟨hS6', hO.fr.trans f6 (fun y hy => .inr (hO.new y hy)), fun y hy => by
              simp only [foot, List.map_cons, List.map_nil, List.mem_cons, List.not_mem_nil, or_false] at hy
              rcases hy with rfl | rfl | rfl
              · exact hO.new _ (by simp [foot])
              · exact hO.new _ (by simp [foot])
              · exact hws, .inr ⟨_, rfl, rfl, rfl, hcc.1, hcc.2⟩⟩
            clear hS6'
            have hS6 := h6.is
            go_wp2_with fail
            refine (saps_Class _ p _ _ _ a hS6).mono ?_
            rintro e w7 ⟨rfl, rfl⟩
            rw [h6.cls]
            go_wp2_with fail
            refine (saps_List _ p _ _ _ hS6).mono ?_
            rintro e w8 ⟨s, rfl, hown, f8⟩
            have hsn := (lenOwn hown).trans h6.hears
            have h8 := h6.on f8
            clear hown hS6
            go_wp2
            go_roundw
            case rel => exact ⟨k + 1, _, rfl, by simp, by omega, _, _, _, h8⟩
            case measure => simp [intOf]; omega
          · have hpos : 0 < clsOf L a := by rw [hcl]; omega
            have e2 : (cl == 0) = false := by simp; omega
            clear hz2 hcl
            go_wp2_with fail
            refine (Open_there _ p b' c' L a _ hS hargs hpos).mono ?_
            rintro e w6 ⟨rfl, rfl⟩
            have h6 := hO
            have hS6 := h6.is
            go_wp2_with fail
            refine (saps_Class _ p _ _ _ a hS6).mono ?_
            rintro e w7 ⟨rfl, rfl⟩
            rw [h6.cls]
            go_wp2_with fail
            refine (saps_List _ p _ _ _ hS6).mono ?_
            rintro e w8 ⟨s, rfl, hown, f8⟩
            have hsn := (lenOwn hown).trans h6.hears
            have h8 := h6.on f8
            clear hown hS6
            go_wp2
            go_roundw
            case rel => exact ⟨k + 1, cl, rfl, by simp, by omega, _, _, _, h8⟩
            case measure => simp [intOf]; omega
      · have d2 : decide ((k : Int) < (l.length : Int)) = false := by simp; omega
        go_wp2
        go_ret
        exact ⟨rfl, hO.fr⟩
end Go.Proofs.Ytdmgpbochddahaa
