/- Plain lemmas on the printed functions of ZintForms: what each comes to. -/
import Derived.Test.YtgnonaokinfaeaaFormsB3
import Derived.Test.YtgnonaokinfaeaaSteps
namespace Go.Proofs.Ytgnonaokinfaeaa.PForms
open Go.RowKit Go.Proofs.YtgnonaokinfaeaaW.PrintWords Go.Proofs.YtgnonaokinfaeaaW.PrintMore Go.Proofs.Ytgnonaokinfaeaa.Num
set_option linter.unusedVariables false

theorem rep_ival_len (n : Bool) {l : List Int} (hL : Limbs l) : (rep (ival n l)).2.length ≤ l.length := by
  have : (ival n l).natAbs = val l := by
    unfold ival
    cases n <;> simp
  unfold rep
  rw [this]
  exact toL_le_of_limbs hL
theorem form_ev (n : Bool) (l : List Int) (hL : Limbs l) (hl : l.length ≤ 70368744177664) : Ev (fun k => zint_Form.f k n l) (rep (ival n l)) :=
  Ev.bind (g := fun k => zint_made.f k n l) (f := fun _ (bt : Bool × List Int) => some (bt.1, bt.2)) (made_rep n l hL hl) (Ev.now (rep (ival n l)))
theorem rnorm2_ev (n : Bool) (l : List Int) (hL : Limbs l) (hl : l.length ≤ 35184372088832) : Ev (fun k => trammelref02_Norm.f k n l) (rep (ival n l)) :=
  Ev.bind (g := fun k => trammelref02_made.f k n l) (f := fun _ (bt : Bool × List Int) => some (bt.1, bt.2)) (rmade_rep n l hL hl) (Ev.now (rep (ival n l)))
theorem forms_j0 (n m : Bool) (a b : List Int) (ha : Limbs a) (hb : Limbs b) (la : a.length * 4 ≤ 140737488351232) (lb : b.length * 4 ≤ 140737488351232) : Ev (fun k => trammellaw02_ZintForms.j0 k false n a m b) true := by
  refine Ev.step (f := fun k => (zint_Small.f k n a).bind fun p => (trammelref02_Small.f k n a).bind fun q => if p.1 = q.1 then (if (p.2 == q.2) = true then ((zint_Sign.f k n a).bind fun s => (trammelref02_Sign.f k n a).bind fun t => if s = t then ((zint_Compare.f k n a m b).bind fun u => (trammelref02_Cmp.f k n a m b).bind fun v => some (u == v)) else some false) else some false) else some false) (fun k => ?_) ?_
  · simp only [trammellaw02_ZintForms.j0]
    rw [if_neg (by decide)]
    simp only [own_ev n a la, own_ev m b lb, Option.bind_some]
  · refine Ev.bind (zsmall_ev n a ha (by omega)) (Ev.bind (rsmall_ev n a ha (by omega)) ?_)
    simp only [beq_self_eq_true, if_true]
    refine Ev.bind (zsign_ev n a ha (by omega)) (Ev.bind (rsign_ev n a ha (by omega)) ?_)
    simp only [if_true]
    refine Ev.bind (zcompare_ev n m a b ha hb (by omega) (by omega)) (Ev.bind (f := fun _ v => some (sgn (ival n a - ival m b) == v)) (r2cmp_ev n m a b ha hb (by omega)) ?_)
    rw [beq_self_eq_true]
    exact Ev.now _
theorem forms_ev (z : Int) (n m : Bool) (a b : List Int) (h0 : -9223372036854775808 ≤ z) (h1 : z ≤ 9223372036854775807) (ha : Limbs a) (hb : Limbs b) (la : a.length * 4 ≤ 140737488351232) (lb : b.length * 4 ≤ 140737488351232) : Ev (fun k => trammellaw02_ZintForms.f k z n a m b) true := by
  have l1 : (rep z).2.length ≤ 2 := toL_len _ _ (by
    rw [show (4294967296 : Nat) ^ 2 = 18446744073709551616 from rfl]
    omega)
  have l2 := rep_ival_len n ha
  refine Ev.bind (zof_ev z h0 h1) (Ev.bind (rof_ev z h0 h1) (Ev.bind (eq_ev _ _ (by omega)) ?_))
  simp only [if_true]
  refine Ev.congr (f := fun k => (zint_Form.f k n a).bind fun p => (trammelref02_Norm.f k n a).bind fun q => (trammellaw02_eq.f k p.1 p.2 q.1 q.2).bind fun t => trammellaw02_ZintForms.j0 k (!t) n a m b) (fun k => ?_) ?_
  · simp only [own_ev n a la, Option.bind_some]
  · exact Ev.bind (form_ev n a ha (by omega)) (Ev.bind (rnorm2_ev n a ha (by omega)) (Ev.bind (f := fun k t => trammellaw02_ZintForms.j0 k (!t) n a m b) (eq_ev _ _ (by omega)) (forms_j0 n m a b ha hb la lb)))

end Go.Proofs.Ytgnonaokinfaeaa.PForms
