
/- The reference's SAPs: opening one. -/
import Derived.Test.YtgmpikaibeenmaaSapsU
namespace Go.Proofs.Ytgmpikaibeenmaa
open Go.RowKit Go.Shelf Go.ChangeMaps
set_option linter.unusedVariables false
set_option linter.unusedSimpArgs false
set_option maxRecDepth 100000

/-- Put in where the greater ones begin. -/
def ins {α : Type} (p : α → Bool) (x : α) (l : List α) : List α := l.takeWhile p ++ x :: l.dropWhile p
theorem ins_map {α β : Type} (p : α → Bool) (p' : β → Bool) (f : α → β) (hp : ∀ x, p x = p' (f x)) (x : α) : ∀ l : List α, (ins p x l).map f = ins p' (f x) (l.map f) := by
  have e : p = p' ∘ f := funext hp
  intro l
  unfold ins
  rw [List.map_append, List.map_cons, List.takeWhile_map, List.dropWhile_map, e]
theorem ins_all {α : Type} (p : α → Bool) (x : α) {l : List α} (h : l.all p = true) : ins p x l = l ++ [x] := by
  have key : ∀ l : List α, (∀ a ∈ l, p a = true) → l.takeWhile p = l ∧ l.dropWhile p = [] := by
    intro l
    induction l with
    | nil => intro _; simp
    | cons a l ih => intro h; simp [List.takeWhile_cons, List.dropWhile_cons, h a (by simp), ih fun b hb => h b (by simp [hb])]
  unfold ins
  obtain ⟨e1, e2⟩ := key l (by simpa using h)
  rw [e1, e2]
theorem ins_new {α : Type} (p : α → Bool) (x y : α) {l : List α} (h : l.all p = true) (hy : p y = false) : ins p x (l ++ [y]) = l ++ [x] ++ [y] := by
  have h' : ∀ a ∈ l, p a = true := by simpa using h
  unfold ins
  rw [List.takeWhile_append_of_pos h', List.dropWhile_append_of_pos h']
  simp [List.takeWhile_cons, List.dropWhile_cons, hy]
theorem ins_old {α : Type} (p : α → Bool) (x y : α) {l : List α} (h : l.all p = false) : ins p x (l ++ [y]) = ins p x l ++ [y] := by
  unfold ins
  have : ∀ l : List α, l.all p = false → (l ++ [y]).takeWhile p = l.takeWhile p ∧ (l ++ [y]).dropWhile p = l.dropWhile p ++ [y] := by
    intro l
    induction l with
    | nil => intro h; cases h
    | cons a l ih =>
      intro h
      by_cases ha : p a = true
      · simp only [List.all_cons, ha, Bool.true_and] at h
        simp [List.takeWhile_cons, List.dropWhile_cons, ha, ih h]
      · simp [List.takeWhile_cons, List.dropWhile_cons, ha]
  rw [(this l h).1, (this l h).2]
  simp
theorem ins_len {α : Type} (p : α → Bool) (x : α) (l : List α) : (ins p x l).length = l.length + 1 := by
  unfold ins
  have : (l.takeWhile p).length + (l.dropWhile p).length = l.length := by rw [← List.length_append, List.takeWhile_append_dropWhile]
  simp; omega
theorem ins_mem {α : Type} (p : α → Bool) (x y : α) (l : List α) : y ∈ ins p x l ↔ y = x ∨ y ∈ l := by
  unfold ins
  have : y ∈ l ↔ y ∈ l.takeWhile p ∨ y ∈ l.dropWhile p := by rw [← List.mem_append, List.takeWhile_append_dropWhile]
  rw [this]; simp only [List.mem_append, List.mem_cons]
  constructor
  · rintro (h | h | h) <;> simp [h]
  · rintro (h | h | h) <;> simp [h]

def leK (n : Int) (x : RE) : Bool := decide (x.k ≤ n)
def newR (n c : Int) : RE := ⟨n, c, [], Sl.nil⟩
def leA (n : Int) (x : AE) : Bool := decide (x.k ≤ n)
def lookRA (R : List AE) (n : Int) : Option AE := R.find? (·.k == n)
def openR (R : List AE) (n c : Int) : Int × List AE := if argB n c = false then (1, R) else if (lookA R n).isSome then (8, R) else if 16 ≤ R.length then (6, R) else (0, ins (leA n) ⟨n, c, []⟩ R)
theorem look_ra (R : List RE) (n : Int) : lookA (R.map RE.a) n = (lookR R n).map RE.a := by
  unfold lookA lookR; rw [List.find?_map]; rfl

/-- Behind a deed: the SAPs, of the reference's list RA; its blocks are of the elder ones, or new. -/
def AtRm (w w' : World) (q : Nat) (s : Sl) (R : List RE) (RA : List AE) : Prop := ∃ s' R', IsR w' q s' R' ∧ R'.map RE.a = RA ∧ Fr (rmut q s) w w' ∧ ∀ b ∈ rfoot q s' R', b ∈ rfoot q s R ∨ w.heap.size ≤ b
theorem AtRm.same {w w' : World} {q : Nat} {s : Sl} {R : List RE} (h : IsR w q s R) (f : Fr [] w w') : AtRm w w' q s R (R.map RE.a) := ⟨s, R, h.fr0 f, rfl, f.mono (by simp), fun b hb => .inl hb⟩
theorem young_blk {w : World} {B : Nat} {e : TypeId} {size n : Nat} {s : Sl} {xs : List Value} (h : w.ownsRow B e size s.v n xs) : ∀ b ∈ s.blk, B ≤ b := by
  intro b hb
  rcases h.2 with ⟨e, _⟩ | ⟨g, cap, cur, e, hg, _⟩
  · cases s; simp only [Sl.v, Value.slice.injEq] at e; simp [Sl.blk, e.1] at hb
  · cases s; simp only [Sl.v, Value.slice.injEq] at e; simp [Sl.blk, e.1] at hb; omega
theorem own_low {w : World} {B B' : Nat} {e : TypeId} {size n : Nat} {v : Value} {xs : List Value} (h : w.ownsRow B e size v n xs) (hb : B' ≤ B) : w.ownsRow B' e size v n xs :=
  ⟨h.1, h.2.imp id fun ⟨g, cap, cur, e, hg, r⟩ => ⟨g, cap, cur, e, Nat.le_trans hb hg, r⟩⟩
/-- A new row of SAPs is put in the place of the elder one. -/
theorem IsR.put {w w1 : World} {q : Nat} {s s2 : Sl} {R R2 : List RE} (h : IsR w q s R) (f : Fr [] w w1) (hown : w1.ownsRow w.heap.size 90 3 s2.v R2.length (flatR R2)) (hR : ∀ x ∈ R2, x ∈ R ∨ ∃ n c, x = newR n c) :
    AtRm w (w1.setCell ⟨q, 0, none⟩ (.slice s2.A s2.n s2.c)) q s R (R2.map RE.a) := by
  have hq : q < w.heap.size := h.head.lt
  have hy := young_blk hown
  have hsf : Fr [q] w1 (w1.setCell ⟨q, 0, none⟩ (.slice s2.A s2.n s2.c)) := (Fr.refl _ _).setCell _ (.inl (by simp))
  have h1 := h.fr0 f
  have hown2 : (w1.setCell ⟨q, 0, none⟩ (.slice s2.A s2.n s2.c)).ownsRow w.heap.size 90 3 s2.v R2.length (flatR R2) :=
    ⟨hown.1, hown.2.imp id fun ⟨g, cap, cur, e, hg, hb, r⟩ => ⟨g, cap, cur, e, hg, hsf.keeps hb (by simp; omega), r⟩⟩
  refine ⟨s2, R2, ⟨Blk.set h1.head 0 _ rfl, own_low hown2 (Nat.zero_le _), fun x hx => ?_, fun x hx b hb => ?_, fun hm => ?_, fun x hx b hb => ?_⟩, rfl, ?_, fun b hb => ?_⟩
  · rcases hR x hx with hx | ⟨n, c, rfl⟩
    · exact (h1.grp x hx).frL hsf fun A n c e => by
        have hb : A.block ∈ x.g.blk := by
          cases hg : x.g
          rw [hg] at e
          simp only [Sl.v, Value.slice.injEq] at e
          simp [Sl.blk, e.1]
        have := (h.off x hx _ hb).1
        simpa using this
    · exact Ints.nil _ _
  · rcases hR x hx with hx | ⟨n, c, rfl⟩
    · refine ⟨(h.off x hx b hb).1, fun hm => ?_⟩
      have h1 := hy b hm
      have := h.lt' b (by simp only [rfoot, List.mem_cons, List.mem_append, List.mem_flatMap]; exact .inr (.inr ⟨x, hx, hb⟩))
      omega
    · simp [newR, Sl.nil, Sl.blk] at hb
  · have := hy q hm; omega
  · rcases hR x hx with hx | ⟨n, c, rfl⟩
    · obtain ⟨cs, t, fz, e⟩ := h1.exi x hx b hb
      exact ⟨cs, t, fz, hsf.keeps e (by simpa using (h.off x hx b hb).1)⟩
    · simp [newR, Sl.nil, Sl.blk] at hb
  · exact (f.mono (by simp)).setCell _ (.inl (by simp [rmut]))
  · simp only [rfoot, List.mem_cons, List.mem_append, List.mem_flatMap] at hb ⊢
    rcases hb with hb | hb | ⟨x, hx, hb⟩
    · exact .inl (.inl hb)
    · exact .inr (hy b hb)
    · rcases hR x hx with hx | ⟨n, c, rfl⟩
      · exact .inl (.inr (.inr ⟨x, hx, hb⟩))
      · simp [newR, Sl.nil, Sl.blk] at hb

theorem flatR_snoc (L : List RE) (x : RE) : flatR (L ++ [x]) = flatR L ++ x.cells := by simp [flatR]

theorem r_Open_no (w : World) (q : Nat) (n c : Int) (h : argB n c = false) :
    Calls Try.prog 49 #[.pointer (some ⟨q, 0, none⟩), .int .i64 n, .int .i64 c] w fun e w' => e = .returned (.int .i64 1) ∧ w = w' := by
  cases hs : sapB n with
  | false =>
    have HS := Lib.hid hs
    clear hs h
    go_enter Try.func49, Try.ntmps49
    go_wp2_with fail
    refine (r_Sap n _).mono ?_
    rintro e w' ⟨rfl, rfl⟩
    rw [HS.out]
    go_wp2
    go_ret
    exact ⟨rfl, rfl⟩
  | true =>
    have HS := Lib.hid hs
    simp only [argB, hs, Bool.true_and] at h
    clear hs
    by_cases h1 : c < 1
    · have d1 : decide (c < 1) = true := by simpa using h1
      go_enter Try.func49, Try.ntmps49
      go_wp2_with fail
      refine (r_Sap n _).mono ?_
      rintro e w' ⟨rfl, rfl⟩
      rw [HS.out]
      go_wp2
      go_ret
      exact ⟨rfl, rfl⟩
    · have d1 : decide (c < 1) = false := by simpa using h1
      have h2 : 4 < c := by simp at h; omega
      have d2 : decide (4 < c) = true := by simpa using h2
      clear h
      go_enter Try.func49, Try.ntmps49
      go_wp2_with fail
      refine (r_Sap n _).mono ?_
      rintro e w' ⟨rfl, rfl⟩
      rw [HS.out]
      go_wp2
      go_ret
      exact ⟨rfl, rfl⟩

set_option maxHeartbeats 4000000 in
set_option maxRecDepth 100000 in
theorem r_Open (w : World) (q : Nat) (s : Sl) (R : List RE) (n c : Int) (h : IsR w q s R) (hs16 : R.length ≤ 16) :
    Calls Try.prog 49 #[.pointer (some ⟨q, 0, none⟩), .int .i64 n, .int .i64 c] w fun e w' => e = .returned (.int .i64 (openR (R.map RE.a) n c).1) ∧ AtRm w w' q s R (openR (R.map RE.a) n c).2 := by
  unfold openR
  by_cases ha : argB n c = false
  · rw [if_pos ha]
    refine (r_Open_no w q n c ha).mono ?_
    rintro e w' ⟨rfl, rfl⟩
    exact ⟨rfl, AtRm.same h (Fr.refl _ _)⟩
  rw [if_neg ha]
  simp only [argB, Bool.not_eq_false, Bool.and_eq_true, decide_eq_true_eq] at ha
  have HS := Lib.hid ha.1.1
  have d1 : decide (c < 1) = false := by simp; omega
  have d2 : decide (4 < c) = false := by simp; omega
  clear ha
  have hat := r_at w q s R n h (by omega)
  rw [look_ra, Option.isSome_map]
  rcases idx_parts R n with ⟨h1, h2⟩ | ⟨i, hi, h1, h2, h3⟩
  · rw [h2]
    rw [h1] at hat
    simp only [Option.isSome_none, Bool.false_eq_true, if_false, List.length_map]
    have c0 := h.c0
    by_cases hfull : 16 ≤ R.length
    · have dl : decide (16 ≤ (R.length : Int)) = true := by simp; omega
      rw [if_pos hfull]
      clear h1 h2 hs16
      go_enter Try.func49, Try.ntmps49
      go_wp2_with fail
      refine (r_Sap n _).mono ?_
      rintro e w' ⟨rfl, rfl⟩
      rw [HS.out]
      go_wp2_with fail
      refine (hat).mono ?_
      rintro e w' ⟨rfl, rfl⟩
      go_wp2
      go_ret
      exact ⟨rfl, AtRm.same h (Fr.refl _ _)⟩
    · have dl : decide (16 ≤ (R.length : Int)) = false := by simp; omega
      rw [if_neg hfull]
      clear h1 h2
      obtain ⟨ji, j0, j1, j2, j3⟩ := info_parts (show (Try.prog.info? 90).map (fun i => (i.zero, i.size, i.bytes)) = some (some (.agg #[.int .i64 0, .int .i64 0, .slice none 0 0]), 3, 40) by kernel_rfl)
      have ju : Try.prog.underlying 82 = some (.slice 90) := Try.underlying82
      have HINS : ∀ L : List RE, L.all (leK n) = true → ins (leK n) (newR n c) L = L ++ [newR n c] := fun L hL => ins_all _ _ hL
      have HINS2 := Lib.hid HINS
      have HM := Lib.hid (show (ins (leK n) (newR n c) R).map RE.a = ins (leA n) ⟨n, c, []⟩ (R.map RE.a) from ins_map (leK n) (leA n) RE.a (fun _ => rfl) (newR n c) R)
      clear HINS
      go_enter Try.func49, Try.ntmps49
      go_wp2_with fail
      refine (r_Sap n _).mono ?_
      rintro e w' ⟨rfl, rfl⟩
      rw [HS.out]
      go_wp2_with fail
      refine (hat).mono ?_
      rintro e w' ⟨rfl, rfl⟩
      clear hat
      go_wp2
      go_loopw [7, 8, 9] (fun v u i wr => ∃ (k : Nat) (L : List RE) (pb : Bool), i = .int .i64 k ∧ u = .bool pb ∧ k ≤ R.length ∧ Fr [] w wr ∧ wr.ownsRow w.heap.size 90 3 v L.length (flatR L) ∧ pb = !((R.take k).all (leK n)) ∧ L = (if (R.take k).all (leK n) = true then R.take k else ins (leK n) (newR n c) (R.take k))) (fun _ _ i _ => R.length - (intOf i).toNat)
      case atStart => exact ⟨0, [], false, rfl, rfl, by omega, Fr.refl _ _, World.ownsRow_nil _ _ _ _, rfl, rfl⟩
      case round =>
        obtain ⟨k, L, pb, rfl, rfl, hk, hf, hown, hpb, hL⟩ := hrel
        have h' := h.fr0 hf
        have c0' := h'.c0
        have hsz := hf.size
        have hLl : L.length ≤ k + 1 := by
          rw [hL]; split
          · exact Nat.le_trans (List.length_take_le _ _) (by omega)
          · rw [ins_len]; have := List.length_take_le k R; omega
        have HL := Lib.hid hL
        clear hL
        by_cases hlt : k < R.length
        · obtain ⟨b, hA, u1, u2, u3⟩ := h.at_ k hlt
          have hq0 := h.c0
          rw [hA] at c0' hq0
          have htk : R.take (k + 1) = R.take k ++ [R[k]] := List.take_succ_eq_append_getElem hlt
          obtain ⟨x, hx⟩ : ∃ x, R[k] = x := ⟨_, rfl⟩
          rw [hx] at u1 u2 u3 htk
          have HX := Lib.hid htk
          have c1 := hf.cell u1 (by simp)
          have c2 := hf.cell u2 (by simp)
          have c3 := hf.cell u3 (by simp)
          clear hx htk hA h'
          have Ax : Fr [] w (wr.alloc (.cells #[.int .i64 n, .int .i64 c, .slice none 0 0] 90)) := hf.alloc _
          cases pb with
          | true =>
            have HP := Lib.hid (show (R.take k).all (leK n) = false by simpa using hpb)
            clear hpb
            go_wp2_with (at_builtin; refine wpList_append_own _ rfl _ _ 82 rfl (w.heap.size) 90 ji (.agg #[.int .i64 0, .int .i64 0, .slice none 0 0]) 3 40 ju j0 j1 j2 j3 rfl (by decide) _ _ _ rfl (hown.alloc _) ⟨wr.heap.size, 0, none⟩ 1 1 [.int .i64 x.k, .int .i64 x.cls, .slice x.g.A x.g.n x.g.c] rfl rfl ?c1 ?c2 ?c4 ?c5 ?c6 ?_)
            case c1 => intro i u hu; match i, hu with
              | 0, hu => simp at hu; subst hu; (try rw [Go.WideShapes.add_plain]); exact (Blk.new wr #[.int .i64 x.k, .int .i64 x.cls, .slice x.g.A x.g.n x.g.c] 90).cell 0 rfl
              | 1, hu => simp at hu; subst hu; (try rw [Go.WideShapes.add_plain]); exact (Blk.new wr #[.int .i64 x.k, .int .i64 x.cls, .slice x.g.A x.g.n x.g.c] 90).cell 1 rfl
              | 2, hu => simp at hu; subst hu; (try rw [Go.WideShapes.add_plain]); exact (Blk.new wr #[.int .i64 x.k, .int .i64 x.cls, .slice x.g.A x.g.n x.g.c] 90).cell 2 rfl
              | i + 3, hu => simp at hu
            case c2 => intro u hu; simp at hu; rcases hu with rfl | rfl | rfl <;> rfl
            case c4 => unfold maxLen; omega
            case c5 => omega
            case c6 => first | (simp; done) | (simp; omega)
            intro v4 w4 hown4 hgrow4 _
            have f4 : Fr [] w w4 := (hf.alloc _).grown hgrow4 (fun k hk => .inr (hown.lt k hk).1)
            have hw4 : w4.ownsRow w.heap.size 90 3 v4 (L ++ [x]).length (flatR (L ++ [x])) := by
              rw [flatR_snoc]; simp only [List.length_append, List.length_singleton]; exact hown4
            clear hown4 hgrow4
            have hs4 := f4.size
            go_wp2
            go_roundw
            case rel => exact ⟨k + 1, L ++ [x], true, by go_num, rfl, by omega, f4, hw4, by rw [HX.out, List.all_append, HP.out]; rfl, by rw [HX.out, List.all_append, HP.out, HL.out, if_neg (by rw [HP.out]; simp), if_neg (by simp), ins_old _ _ _ HP.out]⟩
            case measure => simp [intOf]; omega
          | false =>
            have hp : (R.take k).all (leK n) = true := by simpa using hpb
            have HP := Lib.hid hp
            have HL' := Lib.hid (show L = R.take k by have := HL.out; rwa [if_pos hp] at this)
            clear hpb hp
            by_cases hg : n < x.k
            · have dg : decide (n < x.k) = true := by simpa using hg
              have HG := Lib.hid (show leK n x = false by unfold leK; simp; omega)
              clear hg
              go_wp2_with (at_builtin; refine wpList_append_own _ rfl _ _ 82 rfl (w.heap.size) 90 ji (.agg #[.int .i64 0, .int .i64 0, .slice none 0 0]) 3 40 ju j0 j1 j2 j3 rfl (by decide) _ _ _ rfl (hown.alloc _) ⟨wr.heap.size, 0, none⟩ 1 1 [.int .i64 n, .int .i64 c, .slice none 0 0] rfl rfl ?c1 ?c2 ?c4 ?c5 ?c6 ?_)
              case c1 => intro i u hu; match i, hu with
                | 0, hu => simp at hu; subst hu; (try rw [Go.WideShapes.add_plain]); exact (Blk.new wr #[.int .i64 n, .int .i64 c, .slice none 0 0] 90).cell 0 rfl
                | 1, hu => simp at hu; subst hu; (try rw [Go.WideShapes.add_plain]); exact (Blk.new wr #[.int .i64 n, .int .i64 c, .slice none 0 0] 90).cell 1 rfl
                | 2, hu => simp at hu; subst hu; (try rw [Go.WideShapes.add_plain]); exact (Blk.new wr #[.int .i64 n, .int .i64 c, .slice none 0 0] 90).cell 2 rfl
                | i + 3, hu => simp at hu
              case c2 => intro u hu; simp at hu; rcases hu with rfl | rfl | rfl <;> rfl
              case c4 => unfold maxLen; omega
              case c5 => omega
              case c6 => first | (simp; done) | (simp; omega)
              intro v4 w4 hown4 hgrow4 _
              have f4 : Fr [] w w4 := (hf.alloc _).grown hgrow4 (fun k hk => .inr (hown.lt k hk).1)
              have hw4 : w4.ownsRow w.heap.size 90 3 v4 (L ++ [newR n c]).length (flatR (L ++ [newR n c])) := by
                rw [flatR_snoc]; simp only [List.length_append, List.length_singleton]; exact hown4
              clear hown4 hgrow4
              have hs4 := f4.size
              have c0' := f4.cell hq0 (by simp)
              have c1 := f4.cell u1 (by simp)
              have c2 := f4.cell u2 (by simp)
              have c3 := f4.cell u3 (by simp)
              have hw4c := hw4
              rw [List.length_append, List.length_singleton] at hw4c
              go_wp2_with (at_builtin; refine wpList_append_own _ rfl _ _ 82 rfl (w.heap.size) 90 ji (.agg #[.int .i64 0, .int .i64 0, .slice none 0 0]) 3 40 ju j0 j1 j2 j3 rfl (by decide) _ _ _ rfl (hw4c.alloc _) ⟨w4.heap.size, 0, none⟩ 1 1 [.int .i64 x.k, .int .i64 x.cls, .slice x.g.A x.g.n x.g.c] rfl rfl ?c1 ?c2 ?c4 ?c5 ?c6 ?_)
              case c1 => intro i u hu; match i, hu with
                | 0, hu => simp at hu; subst hu; (try rw [Go.WideShapes.add_plain]); exact (Blk.new w4 #[.int .i64 x.k, .int .i64 x.cls, .slice x.g.A x.g.n x.g.c] 90).cell 0 rfl
                | 1, hu => simp at hu; subst hu; (try rw [Go.WideShapes.add_plain]); exact (Blk.new w4 #[.int .i64 x.k, .int .i64 x.cls, .slice x.g.A x.g.n x.g.c] 90).cell 1 rfl
                | 2, hu => simp at hu; subst hu; (try rw [Go.WideShapes.add_plain]); exact (Blk.new w4 #[.int .i64 x.k, .int .i64 x.cls, .slice x.g.A x.g.n x.g.c] 90).cell 2 rfl
                | i + 3, hu => simp at hu
              case c2 => intro u hu; simp at hu; rcases hu with rfl | rfl | rfl <;> rfl
              case c4 => unfold maxLen; omega
              case c5 => omega
              case c6 => first | (simp; done) | (simp; omega)
              intro v5 w5 hown5 hgrow5 _
              have f5 : Fr [] w w5 := (f4.alloc _).grown hgrow5 (fun k hk => .inr (hw4.lt k hk).1)
              have hw5 : w5.ownsRow w.heap.size 90 3 v5 ((L ++ [newR n c]) ++ [x]).length (flatR ((L ++ [newR n c]) ++ [x])) := by
                rw [flatR_snoc]; simp only [List.length_append, List.length_singleton]; exact hown5
              clear hown5 hgrow5
              have hs5 := f5.size
              go_wp2
              go_roundw
              case rel => exact ⟨k + 1, L ++ [newR n c] ++ [x], true, by go_num, rfl, by omega, f5, hw5, by rw [HX.out, List.all_append, List.all_cons, HG.out]; simp, by rw [HX.out, List.all_append, List.all_cons, HG.out, if_neg (by simp), ins_new _ _ _ HP.out HG.out, HL'.out]⟩
              case measure => simp [intOf]; omega
            · have dg : decide (n < x.k) = false := by simpa using hg
              have HG := Lib.hid (show leK n x = true by unfold leK; simp; omega)
              clear hg
              go_wp2_with (at_builtin; refine wpList_append_own _ rfl _ _ 82 rfl (w.heap.size) 90 ji (.agg #[.int .i64 0, .int .i64 0, .slice none 0 0]) 3 40 ju j0 j1 j2 j3 rfl (by decide) _ _ _ rfl (hown.alloc _) ⟨wr.heap.size, 0, none⟩ 1 1 [.int .i64 x.k, .int .i64 x.cls, .slice x.g.A x.g.n x.g.c] rfl rfl ?c1 ?c2 ?c4 ?c5 ?c6 ?_)
              case c1 => intro i u hu; match i, hu with
                | 0, hu => simp at hu; subst hu; (try rw [Go.WideShapes.add_plain]); exact (Blk.new wr #[.int .i64 x.k, .int .i64 x.cls, .slice x.g.A x.g.n x.g.c] 90).cell 0 rfl
                | 1, hu => simp at hu; subst hu; (try rw [Go.WideShapes.add_plain]); exact (Blk.new wr #[.int .i64 x.k, .int .i64 x.cls, .slice x.g.A x.g.n x.g.c] 90).cell 1 rfl
                | 2, hu => simp at hu; subst hu; (try rw [Go.WideShapes.add_plain]); exact (Blk.new wr #[.int .i64 x.k, .int .i64 x.cls, .slice x.g.A x.g.n x.g.c] 90).cell 2 rfl
                | i + 3, hu => simp at hu
              case c2 => intro u hu; simp at hu; rcases hu with rfl | rfl | rfl <;> rfl
              case c4 => unfold maxLen; omega
              case c5 => omega
              case c6 => first | (simp; done) | (simp; omega)
              intro v4 w4 hown4 hgrow4 _
              have f4 : Fr [] w w4 := (hf.alloc _).grown hgrow4 (fun k hk => .inr (hown.lt k hk).1)
              have hw4 : w4.ownsRow w.heap.size 90 3 v4 (L ++ [x]).length (flatR (L ++ [x])) := by
                rw [flatR_snoc]; simp only [List.length_append, List.length_singleton]; exact hown4
              clear hown4 hgrow4
              have hs4 := f4.size
              go_wp2
              go_roundw
              case rel => exact ⟨k + 1, L ++ [x], false, by go_num, rfl, by omega, f4, hw4, by rw [HX.out, List.all_append, List.all_cons, HG.out, HP.out]; rfl, by rw [HX.out, List.all_append, List.all_cons, HG.out, HP.out, if_pos (by simp), HL'.out]⟩
              case measure => simp [intOf]; omega
        · have htk : R.take k = R := List.take_of_length_le (by omega)
          rw [htk] at hpb
          have HT := Lib.hid htk
          clear htk
          have HMEM : ∀ x ∈ ins (leK n) (newR n c) R, x ∈ R ∨ ∃ n c, x = newR n c := fun x hx => ((ins_mem _ _ _ _).1 hx).elim (fun e => .inr ⟨_, _, e⟩) .inl
          have z0 := h'.head.free 0
          cases pb with
          | true =>
            have HLL := Lib.hid (show L = ins (leK n) (newR n c) R by have := HL.out; rw [HT.out] at this; rwa [if_neg (by simpa using hpb)] at this)
            clear hpb
            obtain ⟨s2, rfl⟩ := own_sl hown
            rw [HLL.out] at hown
            have hput := h.put hf hown HMEM
            rw [HM.out] at hput
            have HPUT := Lib.hid hput
            clear hput HMEM h'
            go_wp2
            go_ret
            exact ⟨rfl, HPUT.out⟩
          | false =>
            have hall : R.all (leK n) = true := by simpa using hpb
            have HLL := Lib.hid (show L = R by have := HL.out; rw [HT.out] at this; rwa [if_pos hall] at this)
            have HII := Lib.hid (HINS2.out R hall)
            clear hpb hall
            go_wp2_with (at_builtin; refine wpList_append_own _ rfl _ _ 82 rfl (w.heap.size) 90 ji (.agg #[.int .i64 0, .int .i64 0, .slice none 0 0]) 3 40 ju j0 j1 j2 j3 rfl (by decide) _ _ _ rfl (hown.alloc _) ⟨wr.heap.size, 0, none⟩ 1 1 [.int .i64 n, .int .i64 c, .slice none 0 0] rfl rfl ?c1 ?c2 ?c4 ?c5 ?c6 ?_)
            case c1 => intro i u hu; match i, hu with
              | 0, hu => simp at hu; subst hu; (try rw [Go.WideShapes.add_plain]); exact (Blk.new wr #[.int .i64 n, .int .i64 c, .slice none 0 0] 90).cell 0 rfl
              | 1, hu => simp at hu; subst hu; (try rw [Go.WideShapes.add_plain]); exact (Blk.new wr #[.int .i64 n, .int .i64 c, .slice none 0 0] 90).cell 1 rfl
              | 2, hu => simp at hu; subst hu; (try rw [Go.WideShapes.add_plain]); exact (Blk.new wr #[.int .i64 n, .int .i64 c, .slice none 0 0] 90).cell 2 rfl
              | i + 3, hu => simp at hu
            case c2 => intro u hu; simp at hu; rcases hu with rfl | rfl | rfl <;> rfl
            case c4 => unfold maxLen; omega
            case c5 => omega
            case c6 => first | (simp; done) | (simp; omega)
            intro v4 w4 hown4 hgrow4 _
            have f4 : Fr [] w w4 := (hf.alloc _).grown hgrow4 (fun k hk => .inr (hown.lt k hk).1)
            have hw4 : w4.ownsRow w.heap.size 90 3 v4 (L ++ [newR n c]).length (flatR (L ++ [newR n c])) := by
              rw [flatR_snoc]; simp only [List.length_append, List.length_singleton]; exact hown4
            clear hown4 hgrow4
            have hs4 := f4.size
            obtain ⟨s2, rfl⟩ := own_sl hw4
            rw [HLL.out, ← HII.out] at hw4
            have hput := h.put f4 hw4 HMEM
            rw [HM.out] at hput
            have HPUT := Lib.hid hput
            have z0 := (h.fr0 f4).head.free 0
            have c0' := (h.fr0 f4).c0
            clear hput HMEM h'
            go_wp2
            go_ret
            exact ⟨rfl, HPUT.out⟩
  · rw [h2]
    rw [h1] at hat
    simp only [Option.isSome_some, if_true]
    have dn : decide (0 ≤ (i : Int)) = true := by simp
    clear h1 h2 h3
    go_enter Try.func49, Try.ntmps49
    go_wp2_with fail
    refine (r_Sap n _).mono ?_
    rintro e w' ⟨rfl, rfl⟩
    rw [HS.out]
    go_wp2_with fail
    refine (hat).mono ?_
    rintro e w' ⟨rfl, rfl⟩
    go_wp2
    go_ret
    exact ⟨rfl, AtRm.same h (Fr.refl _ _)⟩
end Go.Proofs.Ytgmpikaibeenmaa
