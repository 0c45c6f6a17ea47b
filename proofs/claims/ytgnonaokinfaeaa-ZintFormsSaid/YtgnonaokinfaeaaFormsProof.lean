/- ZintForms: for every int64 and every two numbers (each slice of at most 2^47 - 4096 bytes, as the form has it) the law returns true and leaves them as they were. No further condition. -/
import Derived.Test.YtgnonaokinfaeaaFormsLaw
import Derived.Test.YtgnonaokinfaeaaFormsB4
import Derived.Test.YtgnonaokinfaeaaSteps
namespace Go.Proofs.Ytgnonaokinfaeaa.PForms
open Go.RowKit Go.Proofs.YtgnonaokinfaeaaW.PrintWords Go.Proofs.YtgnonaokinfaeaaW.PrintMore Go.Proofs.Ytgnonaokinfaeaa.Num
set_option linter.unusedVariables false

theorem pure_holds : Pure := by
  intro z n a m b h0 h1 ha hb la lb
  exact Ev.rounds (forms_ev z n m a b h0 h1 ha hb la lb)

/-- For every int64 and every two numbers, in whatever memory: the call of ZintForms returns true, and the numbers read afterwards as they did. -/
theorem zintForms_holds : Rows.ZintFormsSaid := zintForms_of pure_holds

end Go.Proofs.Ytgnonaokinfaeaa.PForms
