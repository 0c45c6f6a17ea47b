/-
  No cell of these rows narrows 'for every input' (looked for: loops, veiled, ifaces, maps, wideKeys, modest, calm, conditions, laid).
  DERIVED. THE GIVEN ROWS OF THIS SEAT. 4 by the template 'for every input the law returns true; each argument reads behind the call as it read before'; 0 by the template 'total and deterministic' (their statements: YtgnonaokinfaeaaTotals.lean).
  GIVEN WITH THE SEED: the statements are not yours to turn. If you find one false, say at which input.
  Laid BY PROGRAM, IN A SANDBOX (cutbox-rows.mjs): the forced cells as the released guide's own fill.sh prints them over the translation 690ba328884d8230… (all of the seat's roots in one cut). By AI agents, Wed Nov 11 2026. No macro, syntax, notation, axiom, sorry.
-/
import Derived.Test.YtgnonaokinfaeaaChecked
import GoSem.Claim
import GoSem.ClaimJoined
import GoSem.ClaimMapViews
import Derived.JoinedTies
import Derived.KernelRfl
namespace Go.Proofs.Ytgnonaokinfaeaa
/- THE CELL 'sum', in the pinned program and in every row, IS THE sha256 OF THE DUMP (.gsa) THAT YtgnonaokinfaeaaProg.lean LOADS. Nothing in Lean hashes anything: it is a label: what it is worth is what the hold of that sum in a sandbox is worth. -/
noncomputable def Try.pinned : Pinned := { name := "ytgnonaokinfaeaa", sum := "690ba328884d823061e2f5dbca4848705bd3fe6d27cff698b1cf1ec30a7ece8a", checked := Try.checked }
namespace Rows
def none {H : Type} : Left H := { results := [], args := [] }

/-- 'trammellaw02.ZintTotals': WHATEVER THE INPUT: true; the input reads as it did. -/
def zintTotalsSpec : ChangeSpec := { name := "zintTotals", fn := fun _ => fun
  | [d] => { results := [.lit (.bool true)], args := [d] }
  | _ => none }
def zintTotalsRow : OpenClaim := { program := "ytgnonaokinfaeaa", sum := "690ba328884d823061e2f5dbca4848705bd3fe6d27cff698b1cf1ec30a7ece8a", func := "trammel/trammellaw02.ZintTotals", spec := "zintTotals", apart := false }
def ZintTotalsSaid : Prop := zintTotalsRow.holds Try.pinned (OpenSpec.ofChange zintTotalsSpec)

/-- ITS FALSE NEIGHBOUR: 'it returns false'. Refute it at one input. -/
def zintTotalsWrong : ChangeSpec := { name := "zintTotals", fn := fun _ => fun
  | [d] => { results := [.lit (.bool false)], args := [d] }
  | _ => none }
def ZintTotalsWrongFalsely : Prop := zintTotalsRow.holds Try.pinned (OpenSpec.ofChange zintTotalsWrong)

/-- 'trammellaw02.ZintSums': WHATEVER THE INPUT: true; the input reads as it did. -/
def zintSumsSpec : ChangeSpec := { name := "zintSums", fn := fun _ => fun
  | [d1, d2] => { results := [.lit (.bool true)], args := [d1, d2] }
  | _ => none }
def zintSumsRow : OpenClaim := { program := "ytgnonaokinfaeaa", sum := "690ba328884d823061e2f5dbca4848705bd3fe6d27cff698b1cf1ec30a7ece8a", func := "trammel/trammellaw02.ZintSums", spec := "zintSums", apart := false }
def ZintSumsSaid : Prop := zintSumsRow.holds Try.pinned (OpenSpec.ofChange zintSumsSpec)

/-- ITS FALSE NEIGHBOUR: 'it returns false'. Refute it at one input. -/
def zintSumsWrong : ChangeSpec := { name := "zintSums", fn := fun _ => fun
  | [d1, d2] => { results := [.lit (.bool false)], args := [d1, d2] }
  | _ => none }
def ZintSumsWrongFalsely : Prop := zintSumsRow.holds Try.pinned (OpenSpec.ofChange zintSumsWrong)

/-- 'trammellaw02.ZintForms': WHATEVER THE INPUT: true; the input reads as it did. -/
def zintFormsSpec : ChangeSpec := { name := "zintForms", fn := fun _ => fun
  | [d1, d2, d3] => { results := [.lit (.bool true)], args := [d1, d2, d3] }
  | _ => none }
def zintFormsRow : OpenClaim := { program := "ytgnonaokinfaeaa", sum := "690ba328884d823061e2f5dbca4848705bd3fe6d27cff698b1cf1ec30a7ece8a", func := "trammel/trammellaw02.ZintForms", spec := "zintForms", apart := false }
def ZintFormsSaid : Prop := zintFormsRow.holds Try.pinned (OpenSpec.ofChange zintFormsSpec)

/-- ITS FALSE NEIGHBOUR: 'it returns false'. Refute it at one input. -/
def zintFormsWrong : ChangeSpec := { name := "zintForms", fn := fun _ => fun
  | [d1, d2, d3] => { results := [.lit (.bool false)], args := [d1, d2, d3] }
  | _ => none }
def ZintFormsWrongFalsely : Prop := zintFormsRow.holds Try.pinned (OpenSpec.ofChange zintFormsWrong)

/-- 'trammellaw02.ZintTexts': WHATEVER THE INPUT: true; the input reads as it did. -/
def zintTextsSpec : ChangeSpec := { name := "zintTexts", fn := fun _ => fun
  | [d1, d2] => { results := [.lit (.bool true)], args := [d1, d2] }
  | _ => none }
def zintTextsRow : OpenClaim := { program := "ytgnonaokinfaeaa", sum := "690ba328884d823061e2f5dbca4848705bd3fe6d27cff698b1cf1ec30a7ece8a", func := "trammel/trammellaw02.ZintTexts", spec := "zintTexts", apart := false }
def ZintTextsSaid : Prop := zintTextsRow.holds Try.pinned (OpenSpec.ofChange zintTextsSpec)

/-- ITS FALSE NEIGHBOUR: 'it returns false'. Refute it at one input. -/
def zintTextsWrong : ChangeSpec := { name := "zintTexts", fn := fun _ => fun
  | [d1, d2] => { results := [.lit (.bool false)], args := [d1, d2] }
  | _ => none }
def ZintTextsWrongFalsely : Prop := zintTextsRow.holds Try.pinned (OpenSpec.ofChange zintTextsWrong)

/- THE SECOND FORM. 'bulk': how many values and letters a reading holds, each counted each time it is reached (what is shared counts as often as it is met; a slice's spare places count too). A statement '..UptoSaid' is the law's where the arguments, and the package variables that the reading takes, are together of bulk at most 1048576: NARROWER than '..Said'. Prove '..Said' where nothing that the law and all that it calls make is longer than what came in: it says more and counts as full. Else prove '..UptoSaid'. A law counts once. -/
mutual
def uptoBulk {H : Type} : DataW H → Nat
  | .lit (.string bytes) => bytes.length + 1
  | .lit _ => 1
  | .nil => 1
  | .ptr d => uptoBulk d + 1
  | .slice elems spare => uptoBulkAll elems + uptoBulkAll spare + 1
  | .agg parts => uptoBulkAll parts + 1
  | .iface _ d => uptoBulk d + 1
  | .map entries => uptoBulkEntries entries + 1
  | .held _ => 1
def uptoBulkAll {H : Type} : List (DataW H) → Nat
  | [] => 0
  | d :: r => uptoBulk d + uptoBulkAll r
def uptoBulkEntries {H : Type} : List (Lit × DataW H) → Nat
  | [] => 0
  | x :: r => uptoBulkEntry x + uptoBulkEntries r
def uptoBulkEntry {H : Type} : Lit × DataW H → Nat
  | (.string bytes, d) => bytes.length + uptoBulk d + 1
  | (_, d) => uptoBulk d + 1
 end
def uptoSmall : (H : Type) → List (DataW H) → Bool := fun _ ds => decide (uptoBulkAll ds ≤ 1048576)
def OpenSpec.upto (s : _root_.Go.ChangeSpec) : _root_.Go.OpenSpec := { _root_.Go.OpenSpec.ofChange s with cond := some uptoSmall }

/-- 'trammellaw02.ZintTotals', WHERE WHAT IT READS IS OF BULK AT MOST 1048576: true; the input reads as it did. -/
def zintTotalsUptoRow : OpenClaim := { program := "ytgnonaokinfaeaa", sum := "690ba328884d823061e2f5dbca4848705bd3fe6d27cff698b1cf1ec30a7ece8a", func := "trammel/trammellaw02.ZintTotals", spec := "zintTotals", apart := false, narrowed := true }
def ZintTotalsUptoSaid : Prop := zintTotalsUptoRow.holds Try.pinned (OpenSpec.upto zintTotalsSpec)

/-- 'trammellaw02.ZintSums', WHERE WHAT IT READS IS OF BULK AT MOST 1048576: true; the input reads as it did. -/
def zintSumsUptoRow : OpenClaim := { program := "ytgnonaokinfaeaa", sum := "690ba328884d823061e2f5dbca4848705bd3fe6d27cff698b1cf1ec30a7ece8a", func := "trammel/trammellaw02.ZintSums", spec := "zintSums", apart := false, narrowed := true }
def ZintSumsUptoSaid : Prop := zintSumsUptoRow.holds Try.pinned (OpenSpec.upto zintSumsSpec)

/-- 'trammellaw02.ZintForms', WHERE WHAT IT READS IS OF BULK AT MOST 1048576: true; the input reads as it did. -/
def zintFormsUptoRow : OpenClaim := { program := "ytgnonaokinfaeaa", sum := "690ba328884d823061e2f5dbca4848705bd3fe6d27cff698b1cf1ec30a7ece8a", func := "trammel/trammellaw02.ZintForms", spec := "zintForms", apart := false, narrowed := true }
def ZintFormsUptoSaid : Prop := zintFormsUptoRow.holds Try.pinned (OpenSpec.upto zintFormsSpec)

/-- 'trammellaw02.ZintTexts', WHERE WHAT IT READS IS OF BULK AT MOST 1048576: true; the input reads as it did. -/
def zintTextsUptoRow : OpenClaim := { program := "ytgnonaokinfaeaa", sum := "690ba328884d823061e2f5dbca4848705bd3fe6d27cff698b1cf1ec30a7ece8a", func := "trammel/trammellaw02.ZintTexts", spec := "zintTexts", apart := false, narrowed := true }
def ZintTextsUptoSaid : Prop := zintTextsUptoRow.holds Try.pinned (OpenSpec.upto zintTextsSpec)

end Rows
end Go.Proofs.Ytgnonaokinfaeaa
