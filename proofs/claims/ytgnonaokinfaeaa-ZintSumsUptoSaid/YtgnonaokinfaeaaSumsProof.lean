/- ZintSums, where its two arguments hold together at most 1048576 values: the law returns true and leaves them as they were. -/
import Derived.Test.YtgnonaokinfaeaaSumsLaw
import Derived.Test.YtgnonaokinfaeaaSumsB4
import Derived.Test.YtgnonaokinfaeaaSteps
namespace Go.Proofs.Ytgnonaokinfaeaa.PSums
open Go.RowKit Go.Proofs.YtgnonaokinfaeaaW.PrintWords Go.Proofs.YtgnonaokinfaeaaW.PrintMore Go.Proofs.Ytgnonaokinfaeaa.Num
set_option linter.unusedVariables false

theorem pure_holds : Pure := by
  intro n a m b ha hb la lb
  exact Ev.rounds (sums_ev n m a b ha hb la lb)

/-- For every two numbers of bulk at most 1048576, in whatever memory: the call of ZintSums returns true, and the numbers read afterwards as they did. -/
theorem zintSumsUpto_holds : Rows.ZintSumsUptoSaid := zintSumsUpto_of pure_holds

end Go.Proofs.Ytgnonaokinfaeaa.PSums
