/-
  No cell of these rows narrows 'for every input' (looked for: loops, veiled, ifaces, maps, wideKeys, modest, calm, conditions, laid).
  DERIVED. THE GIVEN ROWS OF THIS SEAT. 10 by the template 'for every input the law returns true; each argument reads behind the call as it read before'; 0 by the template 'total and deterministic' (their statements: YtlhfdfjjploboaaTotals.lean).
  GIVEN WITH THE SEED: the statements are not yours to turn. If you find one false, say at which input.
  Laid BY PROGRAM, IN A SANDBOX (cutbox-rows.mjs): the forced cells as the released guide's own fill.sh prints them over the translation 3f4136c48b4d7ab4… (all of the seat's roots in one cut). By AI agents, Wed Nov 11 2026. No macro, syntax, notation, axiom, sorry.
-/
import Derived.Test.YtlhfdfjjploboaaChecked
import GoSem.Claim
import GoSem.ClaimJoined
import GoSem.ClaimMapViews
import Derived.JoinedTies
import Derived.KernelRfl
namespace Go.Proofs.Ytlhfdfjjploboaa
/- THE CELL 'sum', in the pinned program and in every row, IS THE sha256 OF THE DUMP (.gsa) THAT YtlhfdfjjploboaaProg.lean LOADS. Nothing in Lean hashes anything: it is a label: what it is worth is what the hold of that sum in a sandbox is worth. -/
noncomputable def Try.pinned : Pinned := { name := "ytlhfdfjjploboaa", sum := "3f4136c48b4d7ab4730895843c2c757d7946774c5a7fc3a74fc401a1f26ded66", checked := Try.checked }
namespace Rows
def none {H : Type} : Left H := { results := [], args := [] }

/-- 'antiphonlaw9.SeqKnown': WHATEVER THE INPUT: true; the input reads as it did. -/
def seqKnownSpec : ChangeSpec := { name := "seqKnown", fn := fun _ => fun
  | [] => { results := [.lit (.bool true)], args := [] }
  | _ => none }
def seqKnownRow : OpenClaim := { program := "ytlhfdfjjploboaa", sum := "3f4136c48b4d7ab4730895843c2c757d7946774c5a7fc3a74fc401a1f26ded66", func := "antiphon/antiphonlaw9.SeqKnown", spec := "seqKnown", apart := false }
def SeqKnownSaid : Prop := seqKnownRow.holds Try.pinned (OpenSpec.ofChange seqKnownSpec)

/-- ITS FALSE NEIGHBOUR: 'it returns false'. Refute it at one input. -/
def seqKnownWrong : ChangeSpec := { name := "seqKnown", fn := fun _ => fun
  | [] => { results := [.lit (.bool false)], args := [] }
  | _ => none }
def SeqKnownWrongFalsely : Prop := seqKnownRow.holds Try.pinned (OpenSpec.ofChange seqKnownWrong)

/-- 'antiphonlaw9.SeqNumbers': WHATEVER THE INPUT: true; the input reads as it did. -/
def seqNumbersSpec : ChangeSpec := { name := "seqNumbers", fn := fun _ => fun
  | [d1, d2, d3] => { results := [.lit (.bool true)], args := [d1, d2, d3] }
  | _ => none }
def seqNumbersRow : OpenClaim := { program := "ytlhfdfjjploboaa", sum := "3f4136c48b4d7ab4730895843c2c757d7946774c5a7fc3a74fc401a1f26ded66", func := "antiphon/antiphonlaw9.SeqNumbers", spec := "seqNumbers", apart := false }
def SeqNumbersSaid : Prop := seqNumbersRow.holds Try.pinned (OpenSpec.ofChange seqNumbersSpec)

/-- ITS FALSE NEIGHBOUR: 'it returns false'. Refute it at one input. -/
def seqNumbersWrong : ChangeSpec := { name := "seqNumbers", fn := fun _ => fun
  | [d1, d2, d3] => { results := [.lit (.bool false)], args := [d1, d2, d3] }
  | _ => none }
def SeqNumbersWrongFalsely : Prop := seqNumbersRow.holds Try.pinned (OpenSpec.ofChange seqNumbersWrong)

/-- 'antiphonlaw9.SeqWays': WHATEVER THE INPUT: true; the input reads as it did. -/
def seqWaysSpec : ChangeSpec := { name := "seqWays", fn := fun _ => fun
  | [d1, d2, d3] => { results := [.lit (.bool true)], args := [d1, d2, d3] }
  | _ => none }
def seqWaysRow : OpenClaim := { program := "ytlhfdfjjploboaa", sum := "3f4136c48b4d7ab4730895843c2c757d7946774c5a7fc3a74fc401a1f26ded66", func := "antiphon/antiphonlaw9.SeqWays", spec := "seqWays", apart := false }
def SeqWaysSaid : Prop := seqWaysRow.holds Try.pinned (OpenSpec.ofChange seqWaysSpec)

/-- ITS FALSE NEIGHBOUR: 'it returns false'. Refute it at one input. -/
def seqWaysWrong : ChangeSpec := { name := "seqWays", fn := fun _ => fun
  | [d1, d2, d3] => { results := [.lit (.bool false)], args := [d1, d2, d3] }
  | _ => none }
def SeqWaysWrongFalsely : Prop := seqWaysRow.holds Try.pinned (OpenSpec.ofChange seqWaysWrong)

/-- 'antiphonlaw9.SeqSteps': WHATEVER THE INPUT: true; the input reads as it did. -/
def seqStepsSpec : ChangeSpec := { name := "seqSteps", fn := fun _ => fun
  | [d1, d2, d3] => { results := [.lit (.bool true)], args := [d1, d2, d3] }
  | _ => none }
def seqStepsRow : OpenClaim := { program := "ytlhfdfjjploboaa", sum := "3f4136c48b4d7ab4730895843c2c757d7946774c5a7fc3a74fc401a1f26ded66", func := "antiphon/antiphonlaw9.SeqSteps", spec := "seqSteps", apart := false }
def SeqStepsSaid : Prop := seqStepsRow.holds Try.pinned (OpenSpec.ofChange seqStepsSpec)

/-- ITS FALSE NEIGHBOUR: 'it returns false'. Refute it at one input. -/
def seqStepsWrong : ChangeSpec := { name := "seqSteps", fn := fun _ => fun
  | [d1, d2, d3] => { results := [.lit (.bool false)], args := [d1, d2, d3] }
  | _ => none }
def SeqStepsWrongFalsely : Prop := seqStepsRow.holds Try.pinned (OpenSpec.ofChange seqStepsWrong)

/-- 'antiphonlaw9.SeqOrder': WHATEVER THE INPUT: true; the input reads as it did. -/
def seqOrderSpec : ChangeSpec := { name := "seqOrder", fn := fun _ => fun
  | [d1, d2, d3] => { results := [.lit (.bool true)], args := [d1, d2, d3] }
  | _ => none }
def seqOrderRow : OpenClaim := { program := "ytlhfdfjjploboaa", sum := "3f4136c48b4d7ab4730895843c2c757d7946774c5a7fc3a74fc401a1f26ded66", func := "antiphon/antiphonlaw9.SeqOrder", spec := "seqOrder", apart := false }
def SeqOrderSaid : Prop := seqOrderRow.holds Try.pinned (OpenSpec.ofChange seqOrderSpec)

/-- ITS FALSE NEIGHBOUR: 'it returns false'. Refute it at one input. -/
def seqOrderWrong : ChangeSpec := { name := "seqOrder", fn := fun _ => fun
  | [d1, d2, d3] => { results := [.lit (.bool false)], args := [d1, d2, d3] }
  | _ => none }
def SeqOrderWrongFalsely : Prop := seqOrderRow.holds Try.pinned (OpenSpec.ofChange seqOrderWrong)

/-- 'antiphonlaw17.WindowKnown': WHATEVER THE INPUT: true; the input reads as it did. -/
def windowKnownSpec : ChangeSpec := { name := "windowKnown", fn := fun _ => fun
  | [] => { results := [.lit (.bool true)], args := [] }
  | _ => none }
def windowKnownRow : OpenClaim := { program := "ytlhfdfjjploboaa", sum := "3f4136c48b4d7ab4730895843c2c757d7946774c5a7fc3a74fc401a1f26ded66", func := "antiphon/antiphonlaw17.WindowKnown", spec := "windowKnown", unfollowed := true, recurses := true, apart := false }
def WindowKnownSaid : Prop := windowKnownRow.holds Try.pinned (OpenSpec.ofChange windowKnownSpec)

/-- ITS FALSE NEIGHBOUR: 'it returns false'. Refute it at one input. -/
def windowKnownWrong : ChangeSpec := { name := "windowKnown", fn := fun _ => fun
  | [] => { results := [.lit (.bool false)], args := [] }
  | _ => none }
def WindowKnownWrongFalsely : Prop := windowKnownRow.holds Try.pinned (OpenSpec.ofChange windowKnownWrong)

/-- 'antiphonlaw17.WindowSteps': WHATEVER THE INPUT: true; the input reads as it did. -/
def windowStepsSpec : ChangeSpec := { name := "windowSteps", fn := fun _ => fun
  | [d1, d2] => { results := [.lit (.bool true)], args := [d1, d2] }
  | _ => none }
def windowStepsRow : OpenClaim := { program := "ytlhfdfjjploboaa", sum := "3f4136c48b4d7ab4730895843c2c757d7946774c5a7fc3a74fc401a1f26ded66", func := "antiphon/antiphonlaw17.WindowSteps", spec := "windowSteps", unfollowed := true, recurses := true, apart := false }
def WindowStepsSaid : Prop := windowStepsRow.holds Try.pinned (OpenSpec.ofChange windowStepsSpec)

/-- ITS FALSE NEIGHBOUR: 'it returns false'. Refute it at one input. -/
def windowStepsWrong : ChangeSpec := { name := "windowSteps", fn := fun _ => fun
  | [d1, d2] => { results := [.lit (.bool false)], args := [d1, d2] }
  | _ => none }
def WindowStepsWrongFalsely : Prop := windowStepsRow.holds Try.pinned (OpenSpec.ofChange windowStepsWrong)

/-- 'antiphonlaw17.WindowPlays': WHATEVER THE INPUT: true; the input reads as it did. -/
def windowPlaysSpec : ChangeSpec := { name := "windowPlays", fn := fun _ => fun
  | [d1, d2] => { results := [.lit (.bool true)], args := [d1, d2] }
  | _ => none }
def windowPlaysRow : OpenClaim := { program := "ytlhfdfjjploboaa", sum := "3f4136c48b4d7ab4730895843c2c757d7946774c5a7fc3a74fc401a1f26ded66", func := "antiphon/antiphonlaw17.WindowPlays", spec := "windowPlays", unfollowed := true, recurses := true, apart := false }
def WindowPlaysSaid : Prop := windowPlaysRow.holds Try.pinned (OpenSpec.ofChange windowPlaysSpec)

/-- ITS FALSE NEIGHBOUR: 'it returns false'. Refute it at one input. -/
def windowPlaysWrong : ChangeSpec := { name := "windowPlays", fn := fun _ => fun
  | [d1, d2] => { results := [.lit (.bool false)], args := [d1, d2] }
  | _ => none }
def WindowPlaysWrongFalsely : Prop := windowPlaysRow.holds Try.pinned (OpenSpec.ofChange windowPlaysWrong)

/-- 'antiphonlaw17.WindowOpens': WHATEVER THE INPUT: true; the input reads as it did. -/
def windowOpensSpec : ChangeSpec := { name := "windowOpens", fn := fun _ => fun
  | [d1, d2] => { results := [.lit (.bool true)], args := [d1, d2] }
  | _ => none }
def windowOpensRow : OpenClaim := { program := "ytlhfdfjjploboaa", sum := "3f4136c48b4d7ab4730895843c2c757d7946774c5a7fc3a74fc401a1f26ded66", func := "antiphon/antiphonlaw17.WindowOpens", spec := "windowOpens", unfollowed := true, recurses := true, apart := false }
def WindowOpensSaid : Prop := windowOpensRow.holds Try.pinned (OpenSpec.ofChange windowOpensSpec)

/-- ITS FALSE NEIGHBOUR: 'it returns false'. Refute it at one input. -/
def windowOpensWrong : ChangeSpec := { name := "windowOpens", fn := fun _ => fun
  | [d1, d2] => { results := [.lit (.bool false)], args := [d1, d2] }
  | _ => none }
def WindowOpensWrongFalsely : Prop := windowOpensRow.holds Try.pinned (OpenSpec.ofChange windowOpensWrong)

/-- 'antiphonlaw17.WindowFresh': WHATEVER THE INPUT: true; the input reads as it did. -/
def windowFreshSpec : ChangeSpec := { name := "windowFresh", fn := fun _ => fun
  | [d1, d2] => { results := [.lit (.bool true)], args := [d1, d2] }
  | _ => none }
def windowFreshRow : OpenClaim := { program := "ytlhfdfjjploboaa", sum := "3f4136c48b4d7ab4730895843c2c757d7946774c5a7fc3a74fc401a1f26ded66", func := "antiphon/antiphonlaw17.WindowFresh", spec := "windowFresh", unfollowed := true, recurses := true, apart := false }
def WindowFreshSaid : Prop := windowFreshRow.holds Try.pinned (OpenSpec.ofChange windowFreshSpec)

/-- ITS FALSE NEIGHBOUR: 'it returns false'. Refute it at one input. -/
def windowFreshWrong : ChangeSpec := { name := "windowFresh", fn := fun _ => fun
  | [d1, d2] => { results := [.lit (.bool false)], args := [d1, d2] }
  | _ => none }
def WindowFreshWrongFalsely : Prop := windowFreshRow.holds Try.pinned (OpenSpec.ofChange windowFreshWrong)

/- THE SECOND FORM. 'bulk': how many values and letters a reading holds, each counted each time it is reached (what is shared counts as often as it is met; a slice's spare places count too). A statement '..UptoSaid' is the law's where the arguments, and the package variables that the reading takes, are together of bulk at most 1048576: NARROWER than '..Said'. Prove '..Said' where nothing that the law and all that it calls make is longer than what came in: it says more and counts as full. Else prove '..UptoSaid'. A law counts once. -/
mutual
def uptoBulk {H : Type} : DataW H → Nat
  | .lit (.string bytes) => bytes.length + 1
  | .lit _ => 1
  | .nil => 1
  | .ptr d => uptoBulk d + 1
  | .slice elems spare => uptoBulkAll elems + uptoBulkAll spare + 1
  | .agg parts => uptoBulkAll parts + 1
  | .iface _ d => uptoBulk d + 1
  | .map entries => uptoBulkEntries entries + 1
  | .held _ => 1
def uptoBulkAll {H : Type} : List (DataW H) → Nat
  | [] => 0
  | d :: r => uptoBulk d + uptoBulkAll r
def uptoBulkEntries {H : Type} : List (Lit × DataW H) → Nat
  | [] => 0
  | x :: r => uptoBulkEntry x + uptoBulkEntries r
def uptoBulkEntry {H : Type} : Lit × DataW H → Nat
  | (.string bytes, d) => bytes.length + uptoBulk d + 1
  | (_, d) => uptoBulk d + 1
 end
def uptoSmall : (H : Type) → List (DataW H) → Bool := fun _ ds => decide (uptoBulkAll ds ≤ 1048576)
def OpenSpec.upto (s : _root_.Go.ChangeSpec) : _root_.Go.OpenSpec := { _root_.Go.OpenSpec.ofChange s with cond := some uptoSmall }

/-- 'antiphonlaw9.SeqKnown', WHERE WHAT IT READS IS OF BULK AT MOST 1048576: true; the input reads as it did. -/
def seqKnownUptoRow : OpenClaim := { program := "ytlhfdfjjploboaa", sum := "3f4136c48b4d7ab4730895843c2c757d7946774c5a7fc3a74fc401a1f26ded66", func := "antiphon/antiphonlaw9.SeqKnown", spec := "seqKnown", apart := false, narrowed := true }
def SeqKnownUptoSaid : Prop := seqKnownUptoRow.holds Try.pinned (OpenSpec.upto seqKnownSpec)

/-- 'antiphonlaw9.SeqNumbers', WHERE WHAT IT READS IS OF BULK AT MOST 1048576: true; the input reads as it did. -/
def seqNumbersUptoRow : OpenClaim := { program := "ytlhfdfjjploboaa", sum := "3f4136c48b4d7ab4730895843c2c757d7946774c5a7fc3a74fc401a1f26ded66", func := "antiphon/antiphonlaw9.SeqNumbers", spec := "seqNumbers", apart := false, narrowed := true }
def SeqNumbersUptoSaid : Prop := seqNumbersUptoRow.holds Try.pinned (OpenSpec.upto seqNumbersSpec)

/-- 'antiphonlaw9.SeqWays', WHERE WHAT IT READS IS OF BULK AT MOST 1048576: true; the input reads as it did. -/
def seqWaysUptoRow : OpenClaim := { program := "ytlhfdfjjploboaa", sum := "3f4136c48b4d7ab4730895843c2c757d7946774c5a7fc3a74fc401a1f26ded66", func := "antiphon/antiphonlaw9.SeqWays", spec := "seqWays", apart := false, narrowed := true }
def SeqWaysUptoSaid : Prop := seqWaysUptoRow.holds Try.pinned (OpenSpec.upto seqWaysSpec)

/-- 'antiphonlaw9.SeqSteps', WHERE WHAT IT READS IS OF BULK AT MOST 1048576: true; the input reads as it did. -/
def seqStepsUptoRow : OpenClaim := { program := "ytlhfdfjjploboaa", sum := "3f4136c48b4d7ab4730895843c2c757d7946774c5a7fc3a74fc401a1f26ded66", func := "antiphon/antiphonlaw9.SeqSteps", spec := "seqSteps", apart := false, narrowed := true }
def SeqStepsUptoSaid : Prop := seqStepsUptoRow.holds Try.pinned (OpenSpec.upto seqStepsSpec)

/-- 'antiphonlaw9.SeqOrder', WHERE WHAT IT READS IS OF BULK AT MOST 1048576: true; the input reads as it did. -/
def seqOrderUptoRow : OpenClaim := { program := "ytlhfdfjjploboaa", sum := "3f4136c48b4d7ab4730895843c2c757d7946774c5a7fc3a74fc401a1f26ded66", func := "antiphon/antiphonlaw9.SeqOrder", spec := "seqOrder", apart := false, narrowed := true }
def SeqOrderUptoSaid : Prop := seqOrderUptoRow.holds Try.pinned (OpenSpec.upto seqOrderSpec)

/-- 'antiphonlaw17.WindowKnown', WHERE WHAT IT READS IS OF BULK AT MOST 1048576: true; the input reads as it did. -/
def windowKnownUptoRow : OpenClaim := { program := "ytlhfdfjjploboaa", sum := "3f4136c48b4d7ab4730895843c2c757d7946774c5a7fc3a74fc401a1f26ded66", func := "antiphon/antiphonlaw17.WindowKnown", spec := "windowKnown", unfollowed := true, recurses := true, apart := false, narrowed := true }
def WindowKnownUptoSaid : Prop := windowKnownUptoRow.holds Try.pinned (OpenSpec.upto windowKnownSpec)

/-- 'antiphonlaw17.WindowSteps', WHERE WHAT IT READS IS OF BULK AT MOST 1048576: true; the input reads as it did. -/
def windowStepsUptoRow : OpenClaim := { program := "ytlhfdfjjploboaa", sum := "3f4136c48b4d7ab4730895843c2c757d7946774c5a7fc3a74fc401a1f26ded66", func := "antiphon/antiphonlaw17.WindowSteps", spec := "windowSteps", unfollowed := true, recurses := true, apart := false, narrowed := true }
def WindowStepsUptoSaid : Prop := windowStepsUptoRow.holds Try.pinned (OpenSpec.upto windowStepsSpec)

/-- 'antiphonlaw17.WindowPlays', WHERE WHAT IT READS IS OF BULK AT MOST 1048576: true; the input reads as it did. -/
def windowPlaysUptoRow : OpenClaim := { program := "ytlhfdfjjploboaa", sum := "3f4136c48b4d7ab4730895843c2c757d7946774c5a7fc3a74fc401a1f26ded66", func := "antiphon/antiphonlaw17.WindowPlays", spec := "windowPlays", unfollowed := true, recurses := true, apart := false, narrowed := true }
def WindowPlaysUptoSaid : Prop := windowPlaysUptoRow.holds Try.pinned (OpenSpec.upto windowPlaysSpec)

/-- 'antiphonlaw17.WindowOpens', WHERE WHAT IT READS IS OF BULK AT MOST 1048576: true; the input reads as it did. -/
def windowOpensUptoRow : OpenClaim := { program := "ytlhfdfjjploboaa", sum := "3f4136c48b4d7ab4730895843c2c757d7946774c5a7fc3a74fc401a1f26ded66", func := "antiphon/antiphonlaw17.WindowOpens", spec := "windowOpens", unfollowed := true, recurses := true, apart := false, narrowed := true }
def WindowOpensUptoSaid : Prop := windowOpensUptoRow.holds Try.pinned (OpenSpec.upto windowOpensSpec)

/-- 'antiphonlaw17.WindowFresh', WHERE WHAT IT READS IS OF BULK AT MOST 1048576: true; the input reads as it did. -/
def windowFreshUptoRow : OpenClaim := { program := "ytlhfdfjjploboaa", sum := "3f4136c48b4d7ab4730895843c2c757d7946774c5a7fc3a74fc401a1f26ded66", func := "antiphon/antiphonlaw17.WindowFresh", spec := "windowFresh", unfollowed := true, recurses := true, apart := false, narrowed := true }
def WindowFreshUptoSaid : Prop := windowFreshUptoRow.holds Try.pinned (OpenSpec.upto windowFreshSpec)

end Rows
end Go.Proofs.Ytlhfdfjjploboaa
