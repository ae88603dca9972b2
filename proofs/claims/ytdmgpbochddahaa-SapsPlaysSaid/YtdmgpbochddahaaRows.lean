/-
  No cell of these rows narrows 'for every input' (looked for: loops, veiled, ifaces, maps, wideKeys, modest, calm, conditions, laid).
  DERIVED. THE GIVEN ROWS OF THIS SEAT. 6 by the template 'for every input the law returns true; each argument reads behind the call as it read before'; 0 by the template 'total and deterministic' (their statements: YtdmgpbochddahaaTotals.lean).
  GIVEN WITH THE SEED: the statements are not yours to turn. If you find one false, say at which input.
  Laid BY PROGRAM, IN A SANDBOX (cutbox-rows.mjs): the forced cells as the released guide's own fill.sh prints them over the translation 3d3b79eed6b8b957… (all of the seat's roots in one cut). By AI agents, Wed Nov 11 2026. No macro, syntax, notation, axiom, sorry.
-/
import Derived.Test.YtdmgpbochddahaaChecked
import GoSem.Claim
import GoSem.ClaimJoined
import GoSem.ClaimMapViews
import Derived.JoinedTies
import Derived.KernelRfl
namespace Go.Proofs.Ytdmgpbochddahaa
/- THE CELL 'sum', in the pinned program and in every row, IS THE sha256 OF THE DUMP (.gsa) THAT YtdmgpbochddahaaProg.lean LOADS. Nothing in Lean hashes anything: it is a label: what it is worth is what the hold of that sum in a sandbox is worth. -/
noncomputable def Try.pinned : Pinned := { name := "ytdmgpbochddahaa", sum := "3d3b79eed6b8b957344afd6f3d870184e902138056a32300ddd57b48eb68890e", checked := Try.checked }
namespace Rows
def none {H : Type} : Left H := { results := [], args := [] }

/-- 'antiphonlaw11.SapsClasses': WHATEVER THE INPUT: true; the input reads as it did. -/
def sapsClassesSpec : ChangeSpec := { name := "sapsClasses", fn := fun _ => fun
  | [d1, d2] => { results := [.lit (.bool true)], args := [d1, d2] }
  | _ => none }
def sapsClassesRow : OpenClaim := { program := "ytdmgpbochddahaa", sum := "3d3b79eed6b8b957344afd6f3d870184e902138056a32300ddd57b48eb68890e", func := "antiphon/antiphonlaw11.SapsClasses", spec := "sapsClasses", unfollowed := true, recurses := true, apart := false }
def SapsClassesSaid : Prop := sapsClassesRow.holds Try.pinned (OpenSpec.ofChange sapsClassesSpec)

/-- ITS FALSE NEIGHBOUR: 'it returns false'. Refute it at one input. -/
def sapsClassesWrong : ChangeSpec := { name := "sapsClasses", fn := fun _ => fun
  | [d1, d2] => { results := [.lit (.bool false)], args := [d1, d2] }
  | _ => none }
def SapsClassesWrongFalsely : Prop := sapsClassesRow.holds Try.pinned (OpenSpec.ofChange sapsClassesWrong)

/-- 'antiphonlaw11.SapsKnown': WHATEVER THE INPUT: true; the input reads as it did. -/
def sapsKnownSpec : ChangeSpec := { name := "sapsKnown", fn := fun _ => fun
  | [] => { results := [.lit (.bool true)], args := [] }
  | _ => none }
def sapsKnownRow : OpenClaim := { program := "ytdmgpbochddahaa", sum := "3d3b79eed6b8b957344afd6f3d870184e902138056a32300ddd57b48eb68890e", func := "antiphon/antiphonlaw11.SapsKnown", spec := "sapsKnown", unfollowed := true, recurses := true, apart := false }
def SapsKnownSaid : Prop := sapsKnownRow.holds Try.pinned (OpenSpec.ofChange sapsKnownSpec)

/-- ITS FALSE NEIGHBOUR: 'it returns false'. Refute it at one input. -/
def sapsKnownWrong : ChangeSpec := { name := "sapsKnown", fn := fun _ => fun
  | [] => { results := [.lit (.bool false)], args := [] }
  | _ => none }
def SapsKnownWrongFalsely : Prop := sapsKnownRow.holds Try.pinned (OpenSpec.ofChange sapsKnownWrong)

/-- 'antiphonlaw11.SapsFull': WHATEVER THE INPUT: true; the input reads as it did. -/
def sapsFullSpec : ChangeSpec := { name := "sapsFull", fn := fun _ => fun
  | [d1, d2, d3] => { results := [.lit (.bool true)], args := [d1, d2, d3] }
  | _ => none }
def sapsFullRow : OpenClaim := { program := "ytdmgpbochddahaa", sum := "3d3b79eed6b8b957344afd6f3d870184e902138056a32300ddd57b48eb68890e", func := "antiphon/antiphonlaw11.SapsFull", spec := "sapsFull", unfollowed := true, recurses := true, apart := false }
def SapsFullSaid : Prop := sapsFullRow.holds Try.pinned (OpenSpec.ofChange sapsFullSpec)

/-- ITS FALSE NEIGHBOUR: 'it returns false'. Refute it at one input. -/
def sapsFullWrong : ChangeSpec := { name := "sapsFull", fn := fun _ => fun
  | [d1, d2, d3] => { results := [.lit (.bool false)], args := [d1, d2, d3] }
  | _ => none }
def SapsFullWrongFalsely : Prop := sapsFullRow.holds Try.pinned (OpenSpec.ofChange sapsFullWrong)

/-- 'antiphonlaw11.SapsOne': WHATEVER THE INPUT: true; the input reads as it did. -/
def sapsOneSpec : ChangeSpec := { name := "sapsOne", fn := fun _ => fun
  | [d1, d2] => { results := [.lit (.bool true)], args := [d1, d2] }
  | _ => none }
def sapsOneRow : OpenClaim := { program := "ytdmgpbochddahaa", sum := "3d3b79eed6b8b957344afd6f3d870184e902138056a32300ddd57b48eb68890e", func := "antiphon/antiphonlaw11.SapsOne", spec := "sapsOne", unfollowed := true, recurses := true, apart := false }
def SapsOneSaid : Prop := sapsOneRow.holds Try.pinned (OpenSpec.ofChange sapsOneSpec)

/-- ITS FALSE NEIGHBOUR: 'it returns false'. Refute it at one input. -/
def sapsOneWrong : ChangeSpec := { name := "sapsOne", fn := fun _ => fun
  | [d1, d2] => { results := [.lit (.bool false)], args := [d1, d2] }
  | _ => none }
def SapsOneWrongFalsely : Prop := sapsOneRow.holds Try.pinned (OpenSpec.ofChange sapsOneWrong)

/-- 'antiphonlaw11.SapsPlays': WHATEVER THE INPUT: true; the input reads as it did. -/
def sapsPlaysSpec : ChangeSpec := { name := "sapsPlays", fn := fun _ => fun
  | [d1, d2] => { results := [.lit (.bool true)], args := [d1, d2] }
  | _ => none }
def sapsPlaysRow : OpenClaim := { program := "ytdmgpbochddahaa", sum := "3d3b79eed6b8b957344afd6f3d870184e902138056a32300ddd57b48eb68890e", func := "antiphon/antiphonlaw11.SapsPlays", spec := "sapsPlays", unfollowed := true, recurses := true, apart := false }
def SapsPlaysSaid : Prop := sapsPlaysRow.holds Try.pinned (OpenSpec.ofChange sapsPlaysSpec)

/-- ITS FALSE NEIGHBOUR: 'it returns false'. Refute it at one input. -/
def sapsPlaysWrong : ChangeSpec := { name := "sapsPlays", fn := fun _ => fun
  | [d1, d2] => { results := [.lit (.bool false)], args := [d1, d2] }
  | _ => none }
def SapsPlaysWrongFalsely : Prop := sapsPlaysRow.holds Try.pinned (OpenSpec.ofChange sapsPlaysWrong)

/-- 'antiphonlaw11.SapsHears': WHATEVER THE INPUT: true; the input reads as it did. -/
def sapsHearsSpec : ChangeSpec := { name := "sapsHears", fn := fun _ => fun
  | [d1, d2, d3] => { results := [.lit (.bool true)], args := [d1, d2, d3] }
  | _ => none }
def sapsHearsRow : OpenClaim := { program := "ytdmgpbochddahaa", sum := "3d3b79eed6b8b957344afd6f3d870184e902138056a32300ddd57b48eb68890e", func := "antiphon/antiphonlaw11.SapsHears", spec := "sapsHears", unfollowed := true, recurses := true, apart := false }
def SapsHearsSaid : Prop := sapsHearsRow.holds Try.pinned (OpenSpec.ofChange sapsHearsSpec)

/-- ITS FALSE NEIGHBOUR: 'it returns false'. Refute it at one input. -/
def sapsHearsWrong : ChangeSpec := { name := "sapsHears", fn := fun _ => fun
  | [d1, d2, d3] => { results := [.lit (.bool false)], args := [d1, d2, d3] }
  | _ => none }
def SapsHearsWrongFalsely : Prop := sapsHearsRow.holds Try.pinned (OpenSpec.ofChange sapsHearsWrong)

/- THE SECOND FORM. 'bulk': how many values and letters a reading holds, each counted each time it is reached (what is shared counts as often as it is met; a slice's spare places count too). A statement '..UptoSaid' is the law's where the arguments, and the package variables that the reading takes, are together of bulk at most 1048576: NARROWER than '..Said'. Prove '..Said' where nothing that the law and all that it calls make is longer than what came in: it says more and counts as full. Else prove '..UptoSaid'. A law counts once. -/
mutual
def uptoBulk {H : Type} : DataW H → Nat
  | .lit (.string bytes) => bytes.length + 1
  | .lit _ => 1
  | .nil => 1
  | .ptr d => uptoBulk d + 1
  | .slice elems spare => uptoBulkAll elems + uptoBulkAll spare + 1
  | .agg parts => uptoBulkAll parts + 1
  | .iface _ d => uptoBulk d + 1
  | .map entries => uptoBulkEntries entries + 1
  | .held _ => 1
def uptoBulkAll {H : Type} : List (DataW H) → Nat
  | [] => 0
  | d :: r => uptoBulk d + uptoBulkAll r
def uptoBulkEntries {H : Type} : List (Lit × DataW H) → Nat
  | [] => 0
  | x :: r => uptoBulkEntry x + uptoBulkEntries r
def uptoBulkEntry {H : Type} : Lit × DataW H → Nat
  | (.string bytes, d) => bytes.length + uptoBulk d + 1
  | (_, d) => uptoBulk d + 1
 end
def uptoSmall : (H : Type) → List (DataW H) → Bool := fun _ ds => decide (uptoBulkAll ds ≤ 1048576)
def OpenSpec.upto (s : _root_.Go.ChangeSpec) : _root_.Go.OpenSpec := { _root_.Go.OpenSpec.ofChange s with cond := some uptoSmall }

/-- 'antiphonlaw11.SapsClasses', WHERE WHAT IT READS IS OF BULK AT MOST 1048576: true; the input reads as it did. -/
def sapsClassesUptoRow : OpenClaim := { program := "ytdmgpbochddahaa", sum := "3d3b79eed6b8b957344afd6f3d870184e902138056a32300ddd57b48eb68890e", func := "antiphon/antiphonlaw11.SapsClasses", spec := "sapsClasses", unfollowed := true, recurses := true, apart := false, narrowed := true }
def SapsClassesUptoSaid : Prop := sapsClassesUptoRow.holds Try.pinned (OpenSpec.upto sapsClassesSpec)

/-- 'antiphonlaw11.SapsKnown', WHERE WHAT IT READS IS OF BULK AT MOST 1048576: true; the input reads as it did. -/
def sapsKnownUptoRow : OpenClaim := { program := "ytdmgpbochddahaa", sum := "3d3b79eed6b8b957344afd6f3d870184e902138056a32300ddd57b48eb68890e", func := "antiphon/antiphonlaw11.SapsKnown", spec := "sapsKnown", unfollowed := true, recurses := true, apart := false, narrowed := true }
def SapsKnownUptoSaid : Prop := sapsKnownUptoRow.holds Try.pinned (OpenSpec.upto sapsKnownSpec)

/-- 'antiphonlaw11.SapsFull', WHERE WHAT IT READS IS OF BULK AT MOST 1048576: true; the input reads as it did. -/
def sapsFullUptoRow : OpenClaim := { program := "ytdmgpbochddahaa", sum := "3d3b79eed6b8b957344afd6f3d870184e902138056a32300ddd57b48eb68890e", func := "antiphon/antiphonlaw11.SapsFull", spec := "sapsFull", unfollowed := true, recurses := true, apart := false, narrowed := true }
def SapsFullUptoSaid : Prop := sapsFullUptoRow.holds Try.pinned (OpenSpec.upto sapsFullSpec)

/-- 'antiphonlaw11.SapsOne', WHERE WHAT IT READS IS OF BULK AT MOST 1048576: true; the input reads as it did. -/
def sapsOneUptoRow : OpenClaim := { program := "ytdmgpbochddahaa", sum := "3d3b79eed6b8b957344afd6f3d870184e902138056a32300ddd57b48eb68890e", func := "antiphon/antiphonlaw11.SapsOne", spec := "sapsOne", unfollowed := true, recurses := true, apart := false, narrowed := true }
def SapsOneUptoSaid : Prop := sapsOneUptoRow.holds Try.pinned (OpenSpec.upto sapsOneSpec)

/-- 'antiphonlaw11.SapsPlays', WHERE WHAT IT READS IS OF BULK AT MOST 1048576: true; the input reads as it did. -/
def sapsPlaysUptoRow : OpenClaim := { program := "ytdmgpbochddahaa", sum := "3d3b79eed6b8b957344afd6f3d870184e902138056a32300ddd57b48eb68890e", func := "antiphon/antiphonlaw11.SapsPlays", spec := "sapsPlays", unfollowed := true, recurses := true, apart := false, narrowed := true }
def SapsPlaysUptoSaid : Prop := sapsPlaysUptoRow.holds Try.pinned (OpenSpec.upto sapsPlaysSpec)

/-- 'antiphonlaw11.SapsHears', WHERE WHAT IT READS IS OF BULK AT MOST 1048576: true; the input reads as it did. -/
def sapsHearsUptoRow : OpenClaim := { program := "ytdmgpbochddahaa", sum := "3d3b79eed6b8b957344afd6f3d870184e902138056a32300ddd57b48eb68890e", func := "antiphon/antiphonlaw11.SapsHears", spec := "sapsHears", unfollowed := true, recurses := true, apart := false, narrowed := true }
def SapsHearsUptoSaid : Prop := sapsHearsUptoRow.holds Try.pinned (OpenSpec.upto sapsHearsSpec)

end Rows
end Go.Proofs.Ytdmgpbochddahaa
