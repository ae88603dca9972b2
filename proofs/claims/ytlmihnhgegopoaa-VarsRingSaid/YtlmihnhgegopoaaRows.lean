/-
  No cell of these rows narrows 'for every input' (looked for: loops, veiled, ifaces, maps, wideKeys, modest, calm, conditions, laid).
  DERIVED. THE GIVEN ROWS OF THIS SEAT. 4 by the template 'for every input the law returns true; each argument reads behind the call as it read before'; 0 by the template 'total and deterministic' (their statements: YtlmihnhgegopoaaTotals.lean).
  GIVEN WITH THE SEED: the statements are not yours to turn. If you find one false, say at which input.
  Laid BY PROGRAM, IN A SANDBOX (cutbox-rows.mjs): the forced cells as the released guide's own fill.sh prints them over the translation 85cc3acf40255cf6… (all of the seat's roots in one cut). By AI agents, Wed Nov 11 2026. No macro, syntax, notation, axiom, sorry.
-/
import Derived.Test.YtlmihnhgegopoaaChecked
import GoSem.Claim
import GoSem.ClaimJoined
import GoSem.ClaimMapViews
import Derived.JoinedTies
import Derived.KernelRfl
namespace Go.Proofs.Ytlmihnhgegopoaa
/- THE CELL 'sum', in the pinned program and in every row, IS THE sha256 OF THE DUMP (.gsa) THAT YtlmihnhgegopoaaProg.lean LOADS. Nothing in Lean hashes anything: it is a label: what it is worth is what the hold of that sum in a sandbox is worth. -/
noncomputable def Try.pinned : Pinned := { name := "ytlmihnhgegopoaa", sum := "85cc3acf40255cf662c58b8cc9c2349188a043b3de24c7db3f687e1cd36c62c1", checked := Try.checked }
namespace Rows
def none {H : Type} : Left H := { results := [], args := [] }

/-- 'antiphonlaw16.VarsAcks': WHATEVER THE INPUT: true; the input reads as it did. -/
def varsAcksSpec : ChangeSpec := { name := "varsAcks", fn := fun _ => fun
  | [d1, d2, d3] => { results := [.lit (.bool true)], args := [d1, d2, d3] }
  | _ => none }
def varsAcksRow : OpenClaim := { program := "ytlmihnhgegopoaa", sum := "85cc3acf40255cf662c58b8cc9c2349188a043b3de24c7db3f687e1cd36c62c1", func := "antiphon/antiphonlaw16.VarsAcks", spec := "varsAcks", unfollowed := true, recurses := true, apart := false }
def VarsAcksSaid : Prop := varsAcksRow.holds Try.pinned (OpenSpec.ofChange varsAcksSpec)

/-- ITS FALSE NEIGHBOUR: 'it returns false'. Refute it at one input. -/
def varsAcksWrong : ChangeSpec := { name := "varsAcks", fn := fun _ => fun
  | [d1, d2, d3] => { results := [.lit (.bool false)], args := [d1, d2, d3] }
  | _ => none }
def VarsAcksWrongFalsely : Prop := varsAcksRow.holds Try.pinned (OpenSpec.ofChange varsAcksWrong)

/-- 'antiphonlaw16.VarsRing': WHATEVER THE INPUT: true; the input reads as it did. -/
def varsRingSpec : ChangeSpec := { name := "varsRing", fn := fun _ => fun
  | [d] => { results := [.lit (.bool true)], args := [d] }
  | _ => none }
def varsRingRow : OpenClaim := { program := "ytlmihnhgegopoaa", sum := "85cc3acf40255cf662c58b8cc9c2349188a043b3de24c7db3f687e1cd36c62c1", func := "antiphon/antiphonlaw16.VarsRing", spec := "varsRing", unfollowed := true, recurses := true, apart := false }
def VarsRingSaid : Prop := varsRingRow.holds Try.pinned (OpenSpec.ofChange varsRingSpec)

/-- ITS FALSE NEIGHBOUR: 'it returns false'. Refute it at one input. -/
def varsRingWrong : ChangeSpec := { name := "varsRing", fn := fun _ => fun
  | [d] => { results := [.lit (.bool false)], args := [d] }
  | _ => none }
def VarsRingWrongFalsely : Prop := varsRingRow.holds Try.pinned (OpenSpec.ofChange varsRingWrong)

/-- 'antiphonlaw16.VarsKnown': WHATEVER THE INPUT: true; the input reads as it did. -/
def varsKnownSpec : ChangeSpec := { name := "varsKnown", fn := fun _ => fun
  | [] => { results := [.lit (.bool true)], args := [] }
  | _ => none }
def varsKnownRow : OpenClaim := { program := "ytlmihnhgegopoaa", sum := "85cc3acf40255cf662c58b8cc9c2349188a043b3de24c7db3f687e1cd36c62c1", func := "antiphon/antiphonlaw16.VarsKnown", spec := "varsKnown", unfollowed := true, recurses := true, apart := false }
def VarsKnownSaid : Prop := varsKnownRow.holds Try.pinned (OpenSpec.ofChange varsKnownSpec)

/-- ITS FALSE NEIGHBOUR: 'it returns false'. Refute it at one input. -/
def varsKnownWrong : ChangeSpec := { name := "varsKnown", fn := fun _ => fun
  | [] => { results := [.lit (.bool false)], args := [] }
  | _ => none }
def VarsKnownWrongFalsely : Prop := varsKnownRow.holds Try.pinned (OpenSpec.ofChange varsKnownWrong)

/-- 'antiphonlaw16.VarsPlays': WHATEVER THE INPUT: true; the input reads as it did. -/
def varsPlaysSpec : ChangeSpec := { name := "varsPlays", fn := fun _ => fun
  | [d] => { results := [.lit (.bool true)], args := [d] }
  | _ => none }
def varsPlaysRow : OpenClaim := { program := "ytlmihnhgegopoaa", sum := "85cc3acf40255cf662c58b8cc9c2349188a043b3de24c7db3f687e1cd36c62c1", func := "antiphon/antiphonlaw16.VarsPlays", spec := "varsPlays", unfollowed := true, recurses := true, apart := false }
def VarsPlaysSaid : Prop := varsPlaysRow.holds Try.pinned (OpenSpec.ofChange varsPlaysSpec)

/-- ITS FALSE NEIGHBOUR: 'it returns false'. Refute it at one input. -/
def varsPlaysWrong : ChangeSpec := { name := "varsPlays", fn := fun _ => fun
  | [d] => { results := [.lit (.bool false)], args := [d] }
  | _ => none }
def VarsPlaysWrongFalsely : Prop := varsPlaysRow.holds Try.pinned (OpenSpec.ofChange varsPlaysWrong)

/- THE SECOND FORM. 'bulk': how many values and letters a reading holds, each counted each time it is reached (what is shared counts as often as it is met; a slice's spare places count too). A statement '..UptoSaid' is the law's where the arguments, and the package variables that the reading takes, are together of bulk at most 1048576: NARROWER than '..Said'. Prove '..Said' where nothing that the law and all that it calls make is longer than what came in: it says more and counts as full. Else prove '..UptoSaid'. A law counts once. -/
mutual
def uptoBulk {H : Type} : DataW H → Nat
  | .lit (.string bytes) => bytes.length + 1
  | .lit _ => 1
  | .nil => 1
  | .ptr d => uptoBulk d + 1
  | .slice elems spare => uptoBulkAll elems + uptoBulkAll spare + 1
  | .agg parts => uptoBulkAll parts + 1
  | .iface _ d => uptoBulk d + 1
  | .map entries => uptoBulkEntries entries + 1
  | .held _ => 1
def uptoBulkAll {H : Type} : List (DataW H) → Nat
  | [] => 0
  | d :: r => uptoBulk d + uptoBulkAll r
def uptoBulkEntries {H : Type} : List (Lit × DataW H) → Nat
  | [] => 0
  | x :: r => uptoBulkEntry x + uptoBulkEntries r
def uptoBulkEntry {H : Type} : Lit × DataW H → Nat
  | (.string bytes, d) => bytes.length + uptoBulk d + 1
  | (_, d) => uptoBulk d + 1
 end
def uptoSmall : (H : Type) → List (DataW H) → Bool := fun _ ds => decide (uptoBulkAll ds ≤ 1048576)
def OpenSpec.upto (s : _root_.Go.ChangeSpec) : _root_.Go.OpenSpec := { _root_.Go.OpenSpec.ofChange s with cond := some uptoSmall }

/-- 'antiphonlaw16.VarsAcks', WHERE WHAT IT READS IS OF BULK AT MOST 1048576: true; the input reads as it did. -/
def varsAcksUptoRow : OpenClaim := { program := "ytlmihnhgegopoaa", sum := "85cc3acf40255cf662c58b8cc9c2349188a043b3de24c7db3f687e1cd36c62c1", func := "antiphon/antiphonlaw16.VarsAcks", spec := "varsAcks", unfollowed := true, recurses := true, apart := false, narrowed := true }
def VarsAcksUptoSaid : Prop := varsAcksUptoRow.holds Try.pinned (OpenSpec.upto varsAcksSpec)

/-- 'antiphonlaw16.VarsRing', WHERE WHAT IT READS IS OF BULK AT MOST 1048576: true; the input reads as it did. -/
def varsRingUptoRow : OpenClaim := { program := "ytlmihnhgegopoaa", sum := "85cc3acf40255cf662c58b8cc9c2349188a043b3de24c7db3f687e1cd36c62c1", func := "antiphon/antiphonlaw16.VarsRing", spec := "varsRing", unfollowed := true, recurses := true, apart := false, narrowed := true }
def VarsRingUptoSaid : Prop := varsRingUptoRow.holds Try.pinned (OpenSpec.upto varsRingSpec)

/-- 'antiphonlaw16.VarsKnown', WHERE WHAT IT READS IS OF BULK AT MOST 1048576: true; the input reads as it did. -/
def varsKnownUptoRow : OpenClaim := { program := "ytlmihnhgegopoaa", sum := "85cc3acf40255cf662c58b8cc9c2349188a043b3de24c7db3f687e1cd36c62c1", func := "antiphon/antiphonlaw16.VarsKnown", spec := "varsKnown", unfollowed := true, recurses := true, apart := false, narrowed := true }
def VarsKnownUptoSaid : Prop := varsKnownUptoRow.holds Try.pinned (OpenSpec.upto varsKnownSpec)

/-- 'antiphonlaw16.VarsPlays', WHERE WHAT IT READS IS OF BULK AT MOST 1048576: true; the input reads as it did. -/
def varsPlaysUptoRow : OpenClaim := { program := "ytlmihnhgegopoaa", sum := "85cc3acf40255cf662c58b8cc9c2349188a043b3de24c7db3f687e1cd36c62c1", func := "antiphon/antiphonlaw16.VarsPlays", spec := "varsPlays", unfollowed := true, recurses := true, apart := false, narrowed := true }
def VarsPlaysUptoSaid : Prop := varsPlaysUptoRow.holds Try.pinned (OpenSpec.upto varsPlaysSpec)

end Rows
end Go.Proofs.Ytlmihnhgegopoaa
