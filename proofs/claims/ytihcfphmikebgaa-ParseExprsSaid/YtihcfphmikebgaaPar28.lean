import Derived.Test.YtihcfphmikebgaaPar27
namespace Go.Par
open Go Go.Am Go.Proofs Go.RowKit
set_option linter.unusedVariables false

/-- The document's Same of an expression and itself. -/
theorem same_all {e : Ex} (h : Thin e) : Am.Fun Try.prog 8 [exA e, exA e] (A.bool true) := by
  induction h with
  | mk h hs ih => exact same_s _ h ih

end Go.Par
