/- ZintTotals: for every list of numbers (each slice of at most 2^47 - 4096 bytes, as the form has it) the law returns true and leaves the list as it was. No further condition. -/
import Derived.Test.YtgnonaokinfaeaaTotalsLaw
import Derived.Test.YtgnonaokinfaeaaTotalsB4
import Derived.Test.YtgnonaokinfaeaaSteps
namespace Go.Proofs.Ytgnonaokinfaeaa.PTotals
open Go.RowKit Go.Proofs.YtgnonaokinfaeaaW.PrintWords Go.Proofs.Ytgnonaokinfaeaa.Num
set_option linter.unusedVariables false

theorem pure_holds : Pure := by
  intro xs hn hx
  have h := law_l0 xs 35184372087808 (Nat.le_refl _) (by omega) (fun x h => ⟨(hx x h).1, by have := (hx x h).2; omega⟩) xs.length 0 (by omega) (by omega)
  rw [List.take_zero] at h
  exact Ev.rounds h

/-- For every list of numbers, in whatever memory: the call of ZintTotals returns true, and the list reads afterwards as it did. -/
theorem zintTotals_holds : Rows.ZintTotalsSaid := zintTotals_of pure_holds

end Go.Proofs.Ytgnonaokinfaeaa.PTotals
