/- Who is asked what it can. -/
import Derived.Test.YtgmpikaibeenmaaPlainP0
import Derived.Test.YtgmpikaibeenmaaPlainP1
import Derived.Test.YtgmpikaibeenmaaPlainP2
namespace Go.Proofs.Ytgmpikaibeenmaa
open Go.RowKit Go.Shelf Go.ChangeMaps
set_option linter.unusedVariables false
set_option linter.unusedSimpArgs false
set_option maxRecDepth 100000

theorem walk_PlainXid (w : World) (A : Option Addr) (n cap : Nat) (g : Nat → Nat → Int) (hm : n ≤ 9223372036854775807) (ha : ArgRec [.i64, .i64, .i64] w A n g) (to : Int) (hto : (Lit.int .u8 to).wf = true) (wi : Int) (hwi : (Lit.int .u8 wi).wf = true) :
    Calls Try.prog 7 #[.slice A n cap, .int .u8 to, .int .u8 wi] w fun e w' => e = .returned (.bool true) ∧ Fr [] w w' := by
  by_cases h0 : to = 0
  · exact walk_PlainXid0 w A n cap g hm ha to hto wi hwi (Lib.hid h0)
  · by_cases h1 : to = 255
    · exact walk_PlainXid1 w A n cap g hm ha to hto wi hwi (Lib.hid h0) (Lib.hid h1)
    · exact walk_PlainXid2 w A n cap g hm ha to hto wi hwi (Lib.hid h0) (Lib.hid h1)

end Go.Proofs.Ytgmpikaibeenmaa
