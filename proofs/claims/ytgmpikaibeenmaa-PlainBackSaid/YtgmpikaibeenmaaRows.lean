/-
  No cell of these rows narrows 'for every input' (looked for: loops, veiled, ifaces, maps, wideKeys, modest, calm, conditions, laid).
  DERIVED. THE GIVEN ROWS OF THIS SEAT. 5 by the template 'for every input the law returns true; each argument reads behind the call as it read before'; 0 by the template 'total and deterministic' (their statements: YtgmpikaibeenmaaTotals.lean).
  GIVEN WITH THE SEED: the statements are not yours to turn. If you find one false, say at which input.
  Laid BY PROGRAM, IN A SANDBOX (cutbox-rows.mjs): the forced cells as the released guide's own fill.sh prints them over the translation 60e9a75c081c0218… (all of the seat's roots in one cut). By AI agents, Wed Nov 11 2026. No macro, syntax, notation, axiom, sorry.
-/
import Derived.Test.YtgmpikaibeenmaaChecked
import GoSem.Claim
import GoSem.ClaimJoined
import GoSem.ClaimMapViews
import Derived.JoinedTies
import Derived.KernelRfl
namespace Go.Proofs.Ytgmpikaibeenmaa
/- THE CELL 'sum', in the pinned program and in every row, IS THE sha256 OF THE DUMP (.gsa) THAT YtgmpikaibeenmaaProg.lean LOADS. Nothing in Lean hashes anything: it is a label: what it is worth is what the hold of that sum in a sandbox is worth. -/
noncomputable def Try.pinned : Pinned := { name := "ytgmpikaibeenmaa", sum := "60e9a75c081c021866bce3ce0dc4be77347054f506cc73bbd7a1b7c45e8134ab", checked := Try.checked }
namespace Rows
def none {H : Type} : Left H := { results := [], args := [] }

/-- 'antiphonlaw13.PlainKnown': WHATEVER THE INPUT: true; the input reads as it did. -/
def plainKnownSpec : ChangeSpec := { name := "plainKnown", fn := fun _ => fun
  | [] => { results := [.lit (.bool true)], args := [] }
  | _ => none }
def plainKnownRow : OpenClaim := { program := "ytgmpikaibeenmaa", sum := "60e9a75c081c021866bce3ce0dc4be77347054f506cc73bbd7a1b7c45e8134ab", func := "antiphon/antiphonlaw13.PlainKnown", spec := "plainKnown", unfollowed := true, recurses := true, apart := false }
def PlainKnownSaid : Prop := plainKnownRow.holds Try.pinned (OpenSpec.ofChange plainKnownSpec)

/-- ITS FALSE NEIGHBOUR: 'it returns false'. Refute it at one input. -/
def plainKnownWrong : ChangeSpec := { name := "plainKnown", fn := fun _ => fun
  | [] => { results := [.lit (.bool false)], args := [] }
  | _ => none }
def PlainKnownWrongFalsely : Prop := plainKnownRow.holds Try.pinned (OpenSpec.ofChange plainKnownWrong)

/-- 'antiphonlaw13.PlainAsks': WHATEVER THE INPUT: true; the input reads as it did. -/
def plainAsksSpec : ChangeSpec := { name := "plainAsks", fn := fun _ => fun
  | [d1, d2, d3] => { results := [.lit (.bool true)], args := [d1, d2, d3] }
  | _ => none }
def plainAsksRow : OpenClaim := { program := "ytgmpikaibeenmaa", sum := "60e9a75c081c021866bce3ce0dc4be77347054f506cc73bbd7a1b7c45e8134ab", func := "antiphon/antiphonlaw13.PlainAsks", spec := "plainAsks", unfollowed := true, recurses := true, apart := false }
def PlainAsksSaid : Prop := plainAsksRow.holds Try.pinned (OpenSpec.ofChange plainAsksSpec)

/-- ITS FALSE NEIGHBOUR: 'it returns false'. Refute it at one input. -/
def plainAsksWrong : ChangeSpec := { name := "plainAsks", fn := fun _ => fun
  | [d1, d2, d3] => { results := [.lit (.bool false)], args := [d1, d2, d3] }
  | _ => none }
def PlainAsksWrongFalsely : Prop := plainAsksRow.holds Try.pinned (OpenSpec.ofChange plainAsksWrong)

/-- 'antiphonlaw13.PlainBack': WHATEVER THE INPUT: true; the input reads as it did. -/
def plainBackSpec : ChangeSpec := { name := "plainBack", fn := fun _ => fun
  | [d1, d2, d3] => { results := [.lit (.bool true)], args := [d1, d2, d3] }
  | _ => none }
def plainBackRow : OpenClaim := { program := "ytgmpikaibeenmaa", sum := "60e9a75c081c021866bce3ce0dc4be77347054f506cc73bbd7a1b7c45e8134ab", func := "antiphon/antiphonlaw13.PlainBack", spec := "plainBack", unfollowed := true, recurses := true, apart := false }
def PlainBackSaid : Prop := plainBackRow.holds Try.pinned (OpenSpec.ofChange plainBackSpec)

/-- ITS FALSE NEIGHBOUR: 'it returns false'. Refute it at one input. -/
def plainBackWrong : ChangeSpec := { name := "plainBack", fn := fun _ => fun
  | [d1, d2, d3] => { results := [.lit (.bool false)], args := [d1, d2, d3] }
  | _ => none }
def PlainBackWrongFalsely : Prop := plainBackRow.holds Try.pinned (OpenSpec.ofChange plainBackWrong)

/-- 'antiphonlaw13.PlainUnits': WHATEVER THE INPUT: true; the input reads as it did. -/
def plainUnitsSpec : ChangeSpec := { name := "plainUnits", fn := fun _ => fun
  | [d1, d2, d3] => { results := [.lit (.bool true)], args := [d1, d2, d3] }
  | _ => none }
def plainUnitsRow : OpenClaim := { program := "ytgmpikaibeenmaa", sum := "60e9a75c081c021866bce3ce0dc4be77347054f506cc73bbd7a1b7c45e8134ab", func := "antiphon/antiphonlaw13.PlainUnits", spec := "plainUnits", unfollowed := true, recurses := true, apart := false }
def PlainUnitsSaid : Prop := plainUnitsRow.holds Try.pinned (OpenSpec.ofChange plainUnitsSpec)

/-- ITS FALSE NEIGHBOUR: 'it returns false'. Refute it at one input. -/
def plainUnitsWrong : ChangeSpec := { name := "plainUnits", fn := fun _ => fun
  | [d1, d2, d3] => { results := [.lit (.bool false)], args := [d1, d2, d3] }
  | _ => none }
def PlainUnitsWrongFalsely : Prop := plainUnitsRow.holds Try.pinned (OpenSpec.ofChange plainUnitsWrong)

/-- 'antiphonlaw13.PlainXid': WHATEVER THE INPUT: true; the input reads as it did. -/
def plainXidSpec : ChangeSpec := { name := "plainXid", fn := fun _ => fun
  | [d1, d2, d3] => { results := [.lit (.bool true)], args := [d1, d2, d3] }
  | _ => none }
def plainXidRow : OpenClaim := { program := "ytgmpikaibeenmaa", sum := "60e9a75c081c021866bce3ce0dc4be77347054f506cc73bbd7a1b7c45e8134ab", func := "antiphon/antiphonlaw13.PlainXid", spec := "plainXid", unfollowed := true, recurses := true, apart := false }
def PlainXidSaid : Prop := plainXidRow.holds Try.pinned (OpenSpec.ofChange plainXidSpec)

/-- ITS FALSE NEIGHBOUR: 'it returns false'. Refute it at one input. -/
def plainXidWrong : ChangeSpec := { name := "plainXid", fn := fun _ => fun
  | [d1, d2, d3] => { results := [.lit (.bool false)], args := [d1, d2, d3] }
  | _ => none }
def PlainXidWrongFalsely : Prop := plainXidRow.holds Try.pinned (OpenSpec.ofChange plainXidWrong)

/- THE SECOND FORM. 'bulk': how many values and letters a reading holds, each counted each time it is reached (what is shared counts as often as it is met; a slice's spare places count too). A statement '..UptoSaid' is the law's where the arguments, and the package variables that the reading takes, are together of bulk at most 1048576: NARROWER than '..Said'. Prove '..Said' where nothing that the law and all that it calls make is longer than what came in: it says more and counts as full. Else prove '..UptoSaid'. A law counts once. -/
mutual
def uptoBulk {H : Type} : DataW H → Nat
  | .lit (.string bytes) => bytes.length + 1
  | .lit _ => 1
  | .nil => 1
  | .ptr d => uptoBulk d + 1
  | .slice elems spare => uptoBulkAll elems + uptoBulkAll spare + 1
  | .agg parts => uptoBulkAll parts + 1
  | .iface _ d => uptoBulk d + 1
  | .map entries => uptoBulkEntries entries + 1
  | .held _ => 1
def uptoBulkAll {H : Type} : List (DataW H) → Nat
  | [] => 0
  | d :: r => uptoBulk d + uptoBulkAll r
def uptoBulkEntries {H : Type} : List (Lit × DataW H) → Nat
  | [] => 0
  | x :: r => uptoBulkEntry x + uptoBulkEntries r
def uptoBulkEntry {H : Type} : Lit × DataW H → Nat
  | (.string bytes, d) => bytes.length + uptoBulk d + 1
  | (_, d) => uptoBulk d + 1
 end
def uptoSmall : (H : Type) → List (DataW H) → Bool := fun _ ds => decide (uptoBulkAll ds ≤ 1048576)
def OpenSpec.upto (s : _root_.Go.ChangeSpec) : _root_.Go.OpenSpec := { _root_.Go.OpenSpec.ofChange s with cond := some uptoSmall }

/-- 'antiphonlaw13.PlainKnown', WHERE WHAT IT READS IS OF BULK AT MOST 1048576: true; the input reads as it did. -/
def plainKnownUptoRow : OpenClaim := { program := "ytgmpikaibeenmaa", sum := "60e9a75c081c021866bce3ce0dc4be77347054f506cc73bbd7a1b7c45e8134ab", func := "antiphon/antiphonlaw13.PlainKnown", spec := "plainKnown", unfollowed := true, recurses := true, apart := false, narrowed := true }
def PlainKnownUptoSaid : Prop := plainKnownUptoRow.holds Try.pinned (OpenSpec.upto plainKnownSpec)

/-- 'antiphonlaw13.PlainAsks', WHERE WHAT IT READS IS OF BULK AT MOST 1048576: true; the input reads as it did. -/
def plainAsksUptoRow : OpenClaim := { program := "ytgmpikaibeenmaa", sum := "60e9a75c081c021866bce3ce0dc4be77347054f506cc73bbd7a1b7c45e8134ab", func := "antiphon/antiphonlaw13.PlainAsks", spec := "plainAsks", unfollowed := true, recurses := true, apart := false, narrowed := true }
def PlainAsksUptoSaid : Prop := plainAsksUptoRow.holds Try.pinned (OpenSpec.upto plainAsksSpec)

/-- 'antiphonlaw13.PlainBack', WHERE WHAT IT READS IS OF BULK AT MOST 1048576: true; the input reads as it did. -/
def plainBackUptoRow : OpenClaim := { program := "ytgmpikaibeenmaa", sum := "60e9a75c081c021866bce3ce0dc4be77347054f506cc73bbd7a1b7c45e8134ab", func := "antiphon/antiphonlaw13.PlainBack", spec := "plainBack", unfollowed := true, recurses := true, apart := false, narrowed := true }
def PlainBackUptoSaid : Prop := plainBackUptoRow.holds Try.pinned (OpenSpec.upto plainBackSpec)

/-- 'antiphonlaw13.PlainUnits', WHERE WHAT IT READS IS OF BULK AT MOST 1048576: true; the input reads as it did. -/
def plainUnitsUptoRow : OpenClaim := { program := "ytgmpikaibeenmaa", sum := "60e9a75c081c021866bce3ce0dc4be77347054f506cc73bbd7a1b7c45e8134ab", func := "antiphon/antiphonlaw13.PlainUnits", spec := "plainUnits", unfollowed := true, recurses := true, apart := false, narrowed := true }
def PlainUnitsUptoSaid : Prop := plainUnitsUptoRow.holds Try.pinned (OpenSpec.upto plainUnitsSpec)

/-- 'antiphonlaw13.PlainXid', WHERE WHAT IT READS IS OF BULK AT MOST 1048576: true; the input reads as it did. -/
def plainXidUptoRow : OpenClaim := { program := "ytgmpikaibeenmaa", sum := "60e9a75c081c021866bce3ce0dc4be77347054f506cc73bbd7a1b7c45e8134ab", func := "antiphon/antiphonlaw13.PlainXid", spec := "plainXid", unfollowed := true, recurses := true, apart := false, narrowed := true }
def PlainXidUptoSaid : Prop := plainXidUptoRow.holds Try.pinned (OpenSpec.upto plainXidSpec)

end Rows
end Go.Proofs.Ytgmpikaibeenmaa
