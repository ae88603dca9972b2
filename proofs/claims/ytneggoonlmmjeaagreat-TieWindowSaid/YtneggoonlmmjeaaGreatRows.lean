/-
  No cell of these rows narrows 'for every input' (looked for: loops, veiled, ifaces, maps, wideKeys, modest, calm, conditions, laid).
  DERIVED. THE GIVEN ROWS OF THIS SEAT. 8 by the template 'for every input the law returns true; each argument reads behind the call as it read before'; 0 by the template 'total and deterministic' (their statements: YtneggoonlmmjeaaGreatTotals.lean).
  GIVEN WITH THE SEED: the statements are not yours to turn. If you find one false, say at which input.
  Laid BY PROGRAM, IN A SANDBOX (cutbox-rows.mjs): the forced cells as the released guide's own fill.sh prints them over the translation 112204796cc12bed… (all of the seat's roots in one cut). By AI agents, Wed Nov 11 2026. No macro, syntax, notation, axiom, sorry.
-/
import Derived.Test.YtneggoonlmmjeaaGreatChecked
import GoSem.Claim
import GoSem.ClaimJoined
import GoSem.ClaimMapViews
import Derived.JoinedTies
import Derived.KernelRfl
namespace Go.Proofs.YtneggoonlmmjeaaGreat
/- THE CELL 'sum', in the pinned program and in every row, IS THE sha256 OF THE DUMP (.gsa) THAT YtneggoonlmmjeaaGreatProg.lean LOADS. Nothing in Lean hashes anything: it is a label: what it is worth is what the hold of that sum in a sandbox is worth. -/
noncomputable def Tryz.pinned : Pinned := { name := "ytneggoonlmmjeaagreat", sum := "112204796cc12bedf7e9ac58ec4c4cfa2455ee5d236417a18c3dbb87366bec9b", checked := Tryz.checked }
namespace Rows
def none {H : Type} : Left H := { results := [], args := [] }

/-- 'antiphonlaw27.BoundGives': WHATEVER THE INPUT: true; the input reads as it did. -/
def boundGivesSpec : ChangeSpec := { name := "boundGives", fn := fun _ => fun
  | [d] => { results := [.lit (.bool true)], args := [d] }
  | _ => none }
def boundGivesRow : OpenClaim := { program := "ytneggoonlmmjeaagreat", sum := "112204796cc12bedf7e9ac58ec4c4cfa2455ee5d236417a18c3dbb87366bec9b", func := "antiphon/antiphonlaw27.BoundGives", spec := "boundGives", unfollowed := true, recurses := true, apart := false }
def BoundGivesSaid : Prop := boundGivesRow.holds Tryz.pinned (OpenSpec.ofChange boundGivesSpec)

/-- ITS FALSE NEIGHBOUR: 'it returns false'. Refute it at one input. -/
def boundGivesWrong : ChangeSpec := { name := "boundGives", fn := fun _ => fun
  | [d] => { results := [.lit (.bool false)], args := [d] }
  | _ => none }
def BoundGivesWrongFalsely : Prop := boundGivesRow.holds Tryz.pinned (OpenSpec.ofChange boundGivesWrong)

/-- 'antiphonlaw19.TieElder': WHATEVER THE INPUT: true; the input reads as it did. -/
def tieElderSpec : ChangeSpec := { name := "tieElder", fn := fun _ => fun
  | [d1, d2, d3] => { results := [.lit (.bool true)], args := [d1, d2, d3] }
  | _ => none }
def tieElderRow : OpenClaim := { program := "ytneggoonlmmjeaagreat", sum := "112204796cc12bedf7e9ac58ec4c4cfa2455ee5d236417a18c3dbb87366bec9b", func := "antiphon/antiphonlaw19.TieElder", spec := "tieElder", unfollowed := true, recurses := true, apart := false }
def TieElderSaid : Prop := tieElderRow.holds Tryz.pinned (OpenSpec.ofChange tieElderSpec)

/-- ITS FALSE NEIGHBOUR: 'it returns false'. Refute it at one input. -/
def tieElderWrong : ChangeSpec := { name := "tieElder", fn := fun _ => fun
  | [d1, d2, d3] => { results := [.lit (.bool false)], args := [d1, d2, d3] }
  | _ => none }
def TieElderWrongFalsely : Prop := tieElderRow.holds Tryz.pinned (OpenSpec.ofChange tieElderWrong)

/-- 'antiphonlaw19.TieKnown': WHATEVER THE INPUT: true; the input reads as it did. -/
def tieKnownSpec : ChangeSpec := { name := "tieKnown", fn := fun _ => fun
  | [] => { results := [.lit (.bool true)], args := [] }
  | _ => none }
def tieKnownRow : OpenClaim := { program := "ytneggoonlmmjeaagreat", sum := "112204796cc12bedf7e9ac58ec4c4cfa2455ee5d236417a18c3dbb87366bec9b", func := "antiphon/antiphonlaw19.TieKnown", spec := "tieKnown", inPlace := ["slices.overlaps[[]byte]"], unfollowed := true, recurses := true, apart := false }
def TieKnownSaid : Prop := tieKnownRow.holds Tryz.pinned (OpenSpec.ofChange tieKnownSpec)

/-- ITS FALSE NEIGHBOUR: 'it returns false'. Refute it at one input. -/
def tieKnownWrong : ChangeSpec := { name := "tieKnown", fn := fun _ => fun
  | [] => { results := [.lit (.bool false)], args := [] }
  | _ => none }
def TieKnownWrongFalsely : Prop := tieKnownRow.holds Tryz.pinned (OpenSpec.ofChange tieKnownWrong)

/-- 'antiphonlaw19.TieQueue': WHATEVER THE INPUT: true; the input reads as it did. -/
def tieQueueSpec : ChangeSpec := { name := "tieQueue", fn := fun _ => fun
  | [d1, d2] => { results := [.lit (.bool true)], args := [d1, d2] }
  | _ => none }
def tieQueueRow : OpenClaim := { program := "ytneggoonlmmjeaagreat", sum := "112204796cc12bedf7e9ac58ec4c4cfa2455ee5d236417a18c3dbb87366bec9b", func := "antiphon/antiphonlaw19.TieQueue", spec := "tieQueue", inPlace := ["slices.overlaps[[]byte]"], unfollowed := true, recurses := true, apart := false }
def TieQueueSaid : Prop := tieQueueRow.holds Tryz.pinned (OpenSpec.ofChange tieQueueSpec)

/-- ITS FALSE NEIGHBOUR: 'it returns false'. Refute it at one input. -/
def tieQueueWrong : ChangeSpec := { name := "tieQueue", fn := fun _ => fun
  | [d1, d2] => { results := [.lit (.bool false)], args := [d1, d2] }
  | _ => none }
def TieQueueWrongFalsely : Prop := tieQueueRow.holds Tryz.pinned (OpenSpec.ofChange tieQueueWrong)

/-- 'antiphonlaw19.TieAsked': WHATEVER THE INPUT: true; the input reads as it did. -/
def tieAskedSpec : ChangeSpec := { name := "tieAsked", fn := fun _ => fun
  | [d1, d2, d3] => { results := [.lit (.bool true)], args := [d1, d2, d3] }
  | _ => none }
def tieAskedRow : OpenClaim := { program := "ytneggoonlmmjeaagreat", sum := "112204796cc12bedf7e9ac58ec4c4cfa2455ee5d236417a18c3dbb87366bec9b", func := "antiphon/antiphonlaw19.TieAsked", spec := "tieAsked", inPlace := ["slices.overlaps[[]byte]"], unfollowed := true, recurses := true, apart := false }
def TieAskedSaid : Prop := tieAskedRow.holds Tryz.pinned (OpenSpec.ofChange tieAskedSpec)

/-- ITS FALSE NEIGHBOUR: 'it returns false'. Refute it at one input. -/
def tieAskedWrong : ChangeSpec := { name := "tieAsked", fn := fun _ => fun
  | [d1, d2, d3] => { results := [.lit (.bool false)], args := [d1, d2, d3] }
  | _ => none }
def TieAskedWrongFalsely : Prop := tieAskedRow.holds Tryz.pinned (OpenSpec.ofChange tieAskedWrong)

/-- 'antiphonlaw19.TieSilence': WHATEVER THE INPUT: true; the input reads as it did. -/
def tieSilenceSpec : ChangeSpec := { name := "tieSilence", fn := fun _ => fun
  | [d1, d2] => { results := [.lit (.bool true)], args := [d1, d2] }
  | _ => none }
def tieSilenceRow : OpenClaim := { program := "ytneggoonlmmjeaagreat", sum := "112204796cc12bedf7e9ac58ec4c4cfa2455ee5d236417a18c3dbb87366bec9b", func := "antiphon/antiphonlaw19.TieSilence", spec := "tieSilence", inPlace := ["slices.overlaps[[]byte]"], unfollowed := true, recurses := true, apart := false }
def TieSilenceSaid : Prop := tieSilenceRow.holds Tryz.pinned (OpenSpec.ofChange tieSilenceSpec)

/-- ITS FALSE NEIGHBOUR: 'it returns false'. Refute it at one input. -/
def tieSilenceWrong : ChangeSpec := { name := "tieSilence", fn := fun _ => fun
  | [d1, d2] => { results := [.lit (.bool false)], args := [d1, d2] }
  | _ => none }
def TieSilenceWrongFalsely : Prop := tieSilenceRow.holds Tryz.pinned (OpenSpec.ofChange tieSilenceWrong)

/-- 'antiphonlaw19.TieWindow': WHATEVER THE INPUT: true; the input reads as it did. -/
def tieWindowSpec : ChangeSpec := { name := "tieWindow", fn := fun _ => fun
  | [d1, d2, d3] => { results := [.lit (.bool true)], args := [d1, d2, d3] }
  | _ => none }
def tieWindowRow : OpenClaim := { program := "ytneggoonlmmjeaagreat", sum := "112204796cc12bedf7e9ac58ec4c4cfa2455ee5d236417a18c3dbb87366bec9b", func := "antiphon/antiphonlaw19.TieWindow", spec := "tieWindow", inPlace := ["slices.overlaps[[]byte]"], unfollowed := true, recurses := true, apart := false }
def TieWindowSaid : Prop := tieWindowRow.holds Tryz.pinned (OpenSpec.ofChange tieWindowSpec)

/-- ITS FALSE NEIGHBOUR: 'it returns false'. Refute it at one input. -/
def tieWindowWrong : ChangeSpec := { name := "tieWindow", fn := fun _ => fun
  | [d1, d2, d3] => { results := [.lit (.bool false)], args := [d1, d2, d3] }
  | _ => none }
def TieWindowWrongFalsely : Prop := tieWindowRow.holds Tryz.pinned (OpenSpec.ofChange tieWindowWrong)

/-- 'antiphonlaw19.TieOut': WHATEVER THE INPUT: true; the input reads as it did. -/
def tieOutSpec : ChangeSpec := { name := "tieOut", fn := fun _ => fun
  | [d1, d2] => { results := [.lit (.bool true)], args := [d1, d2] }
  | _ => none }
def tieOutRow : OpenClaim := { program := "ytneggoonlmmjeaagreat", sum := "112204796cc12bedf7e9ac58ec4c4cfa2455ee5d236417a18c3dbb87366bec9b", func := "antiphon/antiphonlaw19.TieOut", spec := "tieOut", inPlace := ["slices.overlaps[[]byte]"], unfollowed := true, recurses := true, apart := false }
def TieOutSaid : Prop := tieOutRow.holds Tryz.pinned (OpenSpec.ofChange tieOutSpec)

/-- ITS FALSE NEIGHBOUR: 'it returns false'. Refute it at one input. -/
def tieOutWrong : ChangeSpec := { name := "tieOut", fn := fun _ => fun
  | [d1, d2] => { results := [.lit (.bool false)], args := [d1, d2] }
  | _ => none }
def TieOutWrongFalsely : Prop := tieOutRow.holds Tryz.pinned (OpenSpec.ofChange tieOutWrong)

/- THE SECOND FORM. 'bulk': how many values and letters a reading holds, each counted each time it is reached (what is shared counts as often as it is met; a slice's spare places count too). A statement '..UptoSaid' is the law's where the arguments, and the package variables that the reading takes, are together of bulk at most 1048576: NARROWER than '..Said'. Prove '..Said' where nothing that the law and all that it calls make is longer than what came in: it says more and counts as full. Else prove '..UptoSaid'. A law counts once. -/
mutual
def uptoBulk {H : Type} : DataW H → Nat
  | .lit (.string bytes) => bytes.length + 1
  | .lit _ => 1
  | .nil => 1
  | .ptr d => uptoBulk d + 1
  | .slice elems spare => uptoBulkAll elems + uptoBulkAll spare + 1
  | .agg parts => uptoBulkAll parts + 1
  | .iface _ d => uptoBulk d + 1
  | .map entries => uptoBulkEntries entries + 1
  | .held _ => 1
def uptoBulkAll {H : Type} : List (DataW H) → Nat
  | [] => 0
  | d :: r => uptoBulk d + uptoBulkAll r
def uptoBulkEntries {H : Type} : List (Lit × DataW H) → Nat
  | [] => 0
  | x :: r => uptoBulkEntry x + uptoBulkEntries r
def uptoBulkEntry {H : Type} : Lit × DataW H → Nat
  | (.string bytes, d) => bytes.length + uptoBulk d + 1
  | (_, d) => uptoBulk d + 1
 end
def uptoSmall : (H : Type) → List (DataW H) → Bool := fun _ ds => decide (uptoBulkAll ds ≤ 1048576)
def OpenSpec.upto (s : _root_.Go.ChangeSpec) : _root_.Go.OpenSpec := { _root_.Go.OpenSpec.ofChange s with cond := some uptoSmall }

/-- 'antiphonlaw27.BoundGives', WHERE WHAT IT READS IS OF BULK AT MOST 1048576: true; the input reads as it did. -/
def boundGivesUptoRow : OpenClaim := { program := "ytneggoonlmmjeaagreat", sum := "112204796cc12bedf7e9ac58ec4c4cfa2455ee5d236417a18c3dbb87366bec9b", func := "antiphon/antiphonlaw27.BoundGives", spec := "boundGives", unfollowed := true, recurses := true, apart := false, narrowed := true }
def BoundGivesUptoSaid : Prop := boundGivesUptoRow.holds Tryz.pinned (OpenSpec.upto boundGivesSpec)

/-- 'antiphonlaw19.TieElder', WHERE WHAT IT READS IS OF BULK AT MOST 1048576: true; the input reads as it did. -/
def tieElderUptoRow : OpenClaim := { program := "ytneggoonlmmjeaagreat", sum := "112204796cc12bedf7e9ac58ec4c4cfa2455ee5d236417a18c3dbb87366bec9b", func := "antiphon/antiphonlaw19.TieElder", spec := "tieElder", unfollowed := true, recurses := true, apart := false, narrowed := true }
def TieElderUptoSaid : Prop := tieElderUptoRow.holds Tryz.pinned (OpenSpec.upto tieElderSpec)

/-- 'antiphonlaw19.TieKnown', WHERE WHAT IT READS IS OF BULK AT MOST 1048576: true; the input reads as it did. -/
def tieKnownUptoRow : OpenClaim := { program := "ytneggoonlmmjeaagreat", sum := "112204796cc12bedf7e9ac58ec4c4cfa2455ee5d236417a18c3dbb87366bec9b", func := "antiphon/antiphonlaw19.TieKnown", spec := "tieKnown", inPlace := ["slices.overlaps[[]byte]"], unfollowed := true, recurses := true, apart := false, narrowed := true }
def TieKnownUptoSaid : Prop := tieKnownUptoRow.holds Tryz.pinned (OpenSpec.upto tieKnownSpec)

/-- 'antiphonlaw19.TieQueue', WHERE WHAT IT READS IS OF BULK AT MOST 1048576: true; the input reads as it did. -/
def tieQueueUptoRow : OpenClaim := { program := "ytneggoonlmmjeaagreat", sum := "112204796cc12bedf7e9ac58ec4c4cfa2455ee5d236417a18c3dbb87366bec9b", func := "antiphon/antiphonlaw19.TieQueue", spec := "tieQueue", inPlace := ["slices.overlaps[[]byte]"], unfollowed := true, recurses := true, apart := false, narrowed := true }
def TieQueueUptoSaid : Prop := tieQueueUptoRow.holds Tryz.pinned (OpenSpec.upto tieQueueSpec)

/-- 'antiphonlaw19.TieAsked', WHERE WHAT IT READS IS OF BULK AT MOST 1048576: true; the input reads as it did. -/
def tieAskedUptoRow : OpenClaim := { program := "ytneggoonlmmjeaagreat", sum := "112204796cc12bedf7e9ac58ec4c4cfa2455ee5d236417a18c3dbb87366bec9b", func := "antiphon/antiphonlaw19.TieAsked", spec := "tieAsked", inPlace := ["slices.overlaps[[]byte]"], unfollowed := true, recurses := true, apart := false, narrowed := true }
def TieAskedUptoSaid : Prop := tieAskedUptoRow.holds Tryz.pinned (OpenSpec.upto tieAskedSpec)

/-- 'antiphonlaw19.TieSilence', WHERE WHAT IT READS IS OF BULK AT MOST 1048576: true; the input reads as it did. -/
def tieSilenceUptoRow : OpenClaim := { program := "ytneggoonlmmjeaagreat", sum := "112204796cc12bedf7e9ac58ec4c4cfa2455ee5d236417a18c3dbb87366bec9b", func := "antiphon/antiphonlaw19.TieSilence", spec := "tieSilence", inPlace := ["slices.overlaps[[]byte]"], unfollowed := true, recurses := true, apart := false, narrowed := true }
def TieSilenceUptoSaid : Prop := tieSilenceUptoRow.holds Tryz.pinned (OpenSpec.upto tieSilenceSpec)

/-- 'antiphonlaw19.TieWindow', WHERE WHAT IT READS IS OF BULK AT MOST 1048576: true; the input reads as it did. -/
def tieWindowUptoRow : OpenClaim := { program := "ytneggoonlmmjeaagreat", sum := "112204796cc12bedf7e9ac58ec4c4cfa2455ee5d236417a18c3dbb87366bec9b", func := "antiphon/antiphonlaw19.TieWindow", spec := "tieWindow", inPlace := ["slices.overlaps[[]byte]"], unfollowed := true, recurses := true, apart := false, narrowed := true }
def TieWindowUptoSaid : Prop := tieWindowUptoRow.holds Tryz.pinned (OpenSpec.upto tieWindowSpec)

/-- 'antiphonlaw19.TieOut', WHERE WHAT IT READS IS OF BULK AT MOST 1048576: true; the input reads as it did. -/
def tieOutUptoRow : OpenClaim := { program := "ytneggoonlmmjeaagreat", sum := "112204796cc12bedf7e9ac58ec4c4cfa2455ee5d236417a18c3dbb87366bec9b", func := "antiphon/antiphonlaw19.TieOut", spec := "tieOut", inPlace := ["slices.overlaps[[]byte]"], unfollowed := true, recurses := true, apart := false, narrowed := true }
def TieOutUptoSaid : Prop := tieOutUptoRow.holds Tryz.pinned (OpenSpec.upto tieOutSpec)

end Rows
end Go.Proofs.YtneggoonlmmjeaaGreat
