/- ZintTexts, where its two arguments hold together at most 1048576 values and letters: the law returns true and leaves them as they were. -/
import Derived.Test.YtgnonaokinfaeaaTextsLaw
import Derived.Test.YtgnonaokinfaeaaTextsB7
import Derived.Test.YtgnonaokinfaeaaSteps
namespace Go.Proofs.Ytgnonaokinfaeaa.PTexts
open Go.RowKit Go.Proofs.YtgnonaokinfaeaaW.PrintWords Go.Proofs.YtgnonaokinfaeaaW.PrintMore Go.Proofs.Ytgnonaokinfaeaa.Num
set_option linter.unusedVariables false

theorem pure_holds : Pure := by
  intro n a s ha la
  exact Ev.rounds (texts_ev n a s ha la)

/-- For every number and every text of bulk at most 1048576 together, in whatever memory: the call of ZintTexts returns true, and both read afterwards as they did. -/
theorem zintTextsUpto_holds : Rows.ZintTextsUptoSaid := zintTextsUpto_of pure_holds

end Go.Proofs.Ytgnonaokinfaeaa.PTexts
