
/- Maps whose keys are whole numbers, entry by entry: what lookup, update, delete, len, range come to. Plain lemmas over any program. -/
import Derived.Test.YtgmpikaibeenmaaParF
import Derived.Test.YtgmpikaibeenmaaRow
import Derived.Maps.RangeWalk
namespace Go.Proofs.Ytgmpikaibeenmaa
open Go.RowKit
set_option linter.unusedVariables false
set_option linter.unusedSimpArgs false
set_option maxRecDepth 100000

/-- An entry. -/
structure IE where
  k : Int
  v : Value
  born : Nat
def IE.e (x : IE) : MapEntry := ⟨.int .i64 x.k, x.v, x.born⟩
abbrev ents (l : List IE) : Array MapEntry := (l.map IE.e).toArray
def get (l : List IE) (n : Int) : Option Value := (l.find? (·.k == n)).map (·.v)

theorem findNow_int (n : Int) : ∀ (l : List IE) (i : Nat), Instr.findNow (.int .i64) (.int .i64 n) (l.map IE.e) i = some (((l.findIdx? (·.k == n)).map (· + i)).bind fun j => (l[j - i]?).map fun x => (j, x.v))
  | [], i => rfl
  | x :: l, i => by
    have ih := findNow_int n l (i + 1)
    show (match Instr.sameNow (.int .i64) (.int .i64 n) (.int .i64 x.k) with | some true => some (some (i, x.v)) | some false => Instr.findNow (.int .i64) (.int .i64 n) (l.map IE.e) (i + 1) | none => none) = _
    by_cases h : x.k = n
    · have : Instr.sameNow (.int .i64) (.int .i64 n) (.int .i64 x.k) = some true := by simp [Instr.sameNow, h]
      rw [this]
      simp [List.findIdx?_cons, h]
    · have : Instr.sameNow (.int .i64) (.int .i64 n) (.int .i64 x.k) = some false := by simp [Instr.sameNow]; exact fun e => h e.symm
      rw [this]
      dsimp only
      rw [ih]
      have hb : (x.k == n) = false := by simpa using h
      simp only [List.findIdx?_cons, hb, Bool.false_eq_true, if_false]
      cases hf : l.findIdx? (·.k == n) with
      | none => simp
      | some j =>
        simp only [Option.map_some, Option.bind_some]
        rw [show j + 1 + i - i = j + 1 by omega, show j + (i + 1) - (i + 1) = j by omega, List.getElem?_cons_succ, show j + 1 + i = j + (i + 1) by omega]

theorem getI_eq (l : List IE) (n : Int) : get l n = ((l.findIdx? (·.k == n)).bind fun j => (l[j]?).map (·.v)) := by
  unfold get
  induction l with
  | nil => rfl
  | cons x l ih =>
    simp only [List.find?_cons, List.findIdx?_cons]
    by_cases hx : (x.k == n) = true
    · simp [hx]
    · simp only [hx, Bool.false_eq_true, if_false]
      rw [ih]
      cases l.findIdx? (·.k == n) <;> simp

section
open Go.ChangeMaps Go.MapKept
variable {P : Program} {w : World} {b : Nat} {l : List IE} {clock : Nat} {t k e : TypeId}

theorem run_checkInt (hk : P.underlying k = some (.int .i64)) (em : Bool) (n : Int) : (Instr.checkKey em 10000 k (.int .i64 n)).run P w = .ok () w := by
  show (Instr.checkKey em (9999 + 1) k (.int .i64 n)).run P w = .ok () w
  unfold Instr.checkKey
  simp [run_underlying hk, Result.andThen, Sem.run_bind]

theorem run_findInt (hk : P.underlying k = some (.int .i64)) (n : Int) : (Instr.findKey k (.int .i64 n) (ents l).toList).run P w = .ok ((l.findIdx? (·.k == n)).bind fun j => (l[j]?).map fun x => (j, x.v)) w := by
  have h := findNow_int n l 0
  simp only [Nat.add_zero, Nat.sub_zero, Option.map_id_fun', id_eq] at h
  unfold Instr.findKey
  simp only [run_underlying hk, Result.andThen, Sem.run_bind, ents, h]
  rfl

theorem im_lookup (h : w.heap[b]? = some (.map (ents l) clock)) (ht : P.underlying t = some (.map k e)) (hk : P.underlying k = some (.int .i64)) {z : Value} (hz : (zeroValue e).run P w = .ok z w) (n : Int) (ok : Bool) :
    (Instr.lookup t (.map (some b)) (.int .i64 n) ok).run P w = .ok (if ok then .tuple #[(get l n).getD z, .bool (get l n).isSome] else (get l n).getD z) w := by
  have hf := run_findInt (P := P) (w := w) (l := l) hk n
  rw [getI_eq]
  cases hi : l.findIdx? (·.k == n) with
  | none =>
    rw [hi] at hf
    simp only [Option.bind_none] at hf ⊢
    simp [Instr.lookup, run_underlying ht, MapKept.run_getObj_map h, run_checkInt hk, hf, hz, Result.andThen]
  | some j =>
    rw [hi] at hf
    have hj : j < l.length := by
      have := List.findIdx?_eq_some_iff_findIdx_eq.1 hi
      exact this.1
    simp only [Option.bind_some, List.getElem?_eq_getElem hj, Option.map_some] at hf ⊢
    simp [Instr.lookup, run_underlying ht, MapKept.run_getObj_map h, run_checkInt hk, hf, Result.andThen]

theorem im_lookup_nil (ht : P.underlying t = some (.map k e)) (hk : P.underlying k = some (.int .i64)) {z : Value} (hz : (zeroValue e).run P w = .ok z w) (n : Int) (ok : Bool) :
    (Instr.lookup t (.map none) (.int .i64 n) ok).run P w = .ok (if ok then .tuple #[z, .bool false] else z) w := by
  have hf := run_findInt (P := P) (w := w) (l := []) hk n
  simp only [List.findIdx?_nil, Option.bind_none, ents, List.map_nil] at hf
  simp [Instr.lookup, run_underlying ht, run_checkInt hk, hf, hz, Result.andThen]

theorem im_push (h : w.heap[b]? = some (.map (ents l) clock)) (ht : P.underlying t = some (.map k e)) (hk : P.underlying k = some (.int .i64)) (n : Int) (v : Value) (hn : get l n = none) :
    (Instr.mapUpdate t (.map (some b)) (.int .i64 n) v).run P w = .ok () (setBlock w b (.map (ents (l ++ [⟨n, v, clock⟩])) (clock + 1))) := by
  have hf := run_findInt (P := P) (w := w) (l := l) hk n
  rw [getI_eq] at hn
  have hi : l.findIdx? (·.k == n) = none := by
    cases hi : l.findIdx? (·.k == n) with
    | none => rfl
    | some j =>
      rw [hi] at hn
      have hj : j < l.length := (List.findIdx?_eq_some_iff_findIdx_eq.1 hi).1
      simp [List.getElem?_eq_getElem hj] at hn
  rw [hi] at hf
  simp only [Option.bind_none] at hf
  simp [Instr.mapUpdate, run_underlying ht, MapKept.run_getObj_map h, run_checkInt hk, hf, MapKept.run_setObj_map _ h, Result.andThen, setBlock, ents, IE.e]

theorem im_delete (h : w.heap[b]? = some (.map (ents l) clock)) (ht : P.underlying t = some (.map k e)) (hk : P.underlying k = some (.int .i64)) (hd : (l.map (·.k)).Nodup) (n : Int) (ty : TypeId) :
    (Builtin.delete_ #[t, k] ty #[.map (some b), .int .i64 n]).run P w = .ok (.tuple #[]) (setBlock w b (.map (ents (l.filter (·.k != n))) clock)) := by
  have hf := run_findInt (P := P) (w := w) (l := l) hk n
  cases hi : l.findIdx? (·.k == n) with
  | none =>
    rw [hi] at hf
    simp only [Option.bind_none] at hf
    have hfl : l.filter (·.k != n) = l := by
      rw [List.filter_eq_self]
      intro x hx
      rw [List.findIdx?_eq_none_iff] at hi
      have := hi x hx
      simpa using this
    rw [hfl]
    simp [Builtin.delete_, run_underlying ht, MapKept.run_getObj_map h, run_checkInt hk, hf, MapKept.run_setObj_map _ h, Result.andThen, setBlock]
  | some j =>
    rw [hi] at hf
    obtain ⟨hj, hj2⟩ := List.findIdx?_eq_some_iff_findIdx_eq.1 hi
    simp only [Option.bind_some, List.getElem?_eq_getElem hj, Option.map_some] at hf
    have hkj : l[j].k = n := by
      have := List.findIdx_getElem (xs := l) (p := (·.k == n)) (w := by rw [hj2]; exact hj)
      simp only [hj2] at this
      simpa using this
    have hfl : l.filter (·.k != n) = l.eraseIdx j := by
      have key : ∀ (l : List IE) (j : Nat) (hj : j < l.length), (l.map (·.k)).Nodup → l[j].k = n → l.filter (·.k != n) = l.eraseIdx j := by
        intro l
        induction l with
        | nil => intro j hj; simp at hj
        | cons x l ih =>
          intro j hj hd hk
          rw [List.map_cons, List.nodup_cons] at hd
          cases j with
          | zero =>
            simp only [List.getElem_cons_zero] at hk
            rw [List.eraseIdx_cons_zero, List.filter_cons, if_neg (by simp [hk]), List.filter_eq_self]
            intro y hy
            simp only [bne_iff_ne, ne_eq]
            exact fun e => hd.1 (by rw [hk, ← e]; exact List.mem_map_of_mem hy)
          | succ j =>
            have hj' : j < l.length := by simpa using hj
            simp only [List.getElem_cons_succ] at hk
            have hx : (x.k != n) = true := by
              simp only [bne_iff_ne, ne_eq]
              exact fun e => hd.1 (by rw [e, ← hk]; exact List.mem_map_of_mem (List.getElem_mem hj'))
            rw [List.eraseIdx_cons_succ, List.filter_cons, if_pos hx, ih j hj' hd.2 hk]
      exact key l j hj hd hkj
    rw [hfl]
    have he : (ents l).eraseIdxIfInBounds j = ents (l.eraseIdx j) := by
      have : j < (ents l).size := by simpa [ents] using hj
      simp only [Array.eraseIdxIfInBounds, this, dif_pos]
      apply Array.ext'
      simp [ents, map_eraseIdx]
    simp [Builtin.delete_, run_underlying ht, MapKept.run_getObj_map h, run_checkInt hk, hf, MapKept.run_setObj_map _ h, Result.andThen, setBlock, ents, map_eraseIdx]

theorem im_len (h : w.heap[b]? = some (.map (ents l) clock)) (ht : P.underlying t = some (.map k e)) (ty : TypeId) : (Builtin.len_ #[t] ty #[.map (some b)]).run P w = .ok (.int .i64 l.length) w := by
  simp [Builtin.len_, run_underlying ht, MapKept.run_getObj_map h, Result.andThen, ents, goInt]
end
end Go.Proofs.Ytgmpikaibeenmaa
