
/- Rows of what users are told, read. -/
import Derived.Test.YtgmpikaibeenmaaPlainQ
import Derived.Test.YtgmpikaibeenmaaPlainO
namespace Go.Proofs.Ytgmpikaibeenmaa
open Go.RowKit Go.Shelf Go.ChangeMaps
set_option linter.unusedVariables false
set_option linter.unusedSimpArgs false
set_option maxRecDepth 100000

theorem IRow.get {N B : Nat} {s : Sl} {l : List ID} {w : World} (h : IRow N B s l w) {k : Nat} {d : ID} (hk : l[k]? = some d) :
    ∃ b sd, s.A = some ⟨b, 0, none⟩ ∧ Bts N w sd d.b ∧ w.cell? ⟨b, k * 11, none⟩ = some (.int .i64 d.kd) ∧ w.cell? ⟨b, k * 11 + 1, none⟩ = some (.int .i64 d.sap) ∧ w.cell? ⟨b, k * 11 + 2, none⟩ = some (.int .i64 d.far) ∧ w.cell? ⟨b, k * 11 + 3, none⟩ = some (.int .u8 d.peer.a) ∧ w.cell? ⟨b, k * 11 + 4, none⟩ = some (.int .u8 d.peer.b) ∧ w.cell? ⟨b, k * 11 + 5, none⟩ = some (.int .u8 d.peer.c) ∧ w.cell? ⟨b, k * 11 + 6, none⟩ = some (.int .u8 d.peer.d) ∧ w.cell? ⟨b, k * 11 + 7, none⟩ = some (.int .u8 d.peer.e) ∧ w.cell? ⟨b, k * 11 + 8, none⟩ = some (.int .u8 d.peer.f) ∧ w.cell? ⟨b, k * 11 + 9, none⟩ = some (.slice sd.A sd.n sd.c) ∧ w.cell? ⟨b, k * 11 + 10, none⟩ = some (.int .i64 0) := by
  obtain ⟨b, x, hA, hz, ⟨sd, rfl, hb⟩, hc⟩ := RowG.get h hk
  exact ⟨b, sd, hA, hb, hc 0 (by omega), hc 1 (by omega), hc 2 (by omega), hc 3 (by omega), hc 4 (by omega), hc 5 (by omega), hc 6 (by omega), hc 7 (by omega), hc 8 (by omega), hc 9 (by omega), hc 10 (by omega)⟩

end Go.Proofs.Ytgmpikaibeenmaa
