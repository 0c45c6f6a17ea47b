/- Plain lemmas on the printed functions of ZintSums: what each comes to. -/
import Derived.Test.YtgnonaokinfaeaaSumsA9
import Derived.Test.YtgnonaokinfaeaaSumsB3
import Derived.Test.YtgnonaokinfaeaaMul
import Derived.Test.YtgnonaokinfaeaaSteps
namespace Go.Proofs.Ytgnonaokinfaeaa.PSums
open Go.RowKit Go.Proofs.YtgnonaokinfaeaaW.PrintWords Go.Proofs.YtgnonaokinfaeaaW.PrintMore Go.Proofs.Ytgnonaokinfaeaa.Num
set_option linter.unusedVariables false

theorem ival_not (n : Bool) (l : List Int) : ival (!n) l = -ival n l := by
  unfold ival
  cases n <;> simp
/-- The document's Neg. -/
theorem rneg_ev (n : Bool) (l : List Int) (hL : Limbs l) (hl : l.length ≤ 35184372088832) : Ev (fun k => trammelref02_Neg.f k n l) (rep (-ival n l)) := by
  rw [← ival_not]
  exact Ev.bind (f := fun _ bt => some (bt.1, bt.2)) (rmade_rep (!n) l hL hl) (Ev.now _)
/-- The document's Sub. -/
theorem r2sub_ev (n m : Bool) (a b : List Int) (ha : Limbs a) (hb : Limbs b) (hl : max a.length b.length < 35184372088832) : Ev (fun k => trammelref02_Sub.f k n a m b) (rep (ival n a - ival m b)) := by
  have h1 := rneg_ev m b hb (by omega)
  have hlen : (rep (-ival m b)).2.length ≤ b.length := by
    have : (-ival m b).natAbs = val b := by
      unfold ival
      cases m <;> simp
    unfold rep
    rw [this]
    exact toL_le_of_limbs hb
  have h2 := r2add_ev n (rep (-ival m b)).1 a (rep (-ival m b)).2 ha (rep_limbs _) (by omega)
  rw [ival_rep] at h2
  exact Ev.bind h1 (Ev.bind (f := fun _ bt => some (bt.1, bt.2)) h2 (Ev.now _))

theorem rep_ival_len (n : Bool) {l : List Int} (hL : Limbs l) : (rep (ival n l)).2.length ≤ l.length := by
  have : (ival n l).natAbs = val l := by
    unfold ival
    cases n <;> simp
  unfold rep
  rw [this]
  exact toL_le_of_limbs hL
theorem rep_neg_len (n : Bool) {l : List Int} (hL : Limbs l) : (rep (-ival n l)).2.length ≤ l.length := by
  have : (-ival n l).natAbs = val l := by
    unfold ival
    cases n <;> simp
  unfold rep
  rw [this]
  exact toL_le_of_limbs hL
/-- zint.Neg. -/
theorem zneg_ev (n : Bool) (l : List Int) (hL : Limbs l) (hl : l.length ≤ 70368744177664) : Ev (fun k => zint_Neg.f k n l) (rep (-ival n l)) := by
  rw [← ival_not]
  exact Ev.bind (f := fun _ bt => some (bt.1, bt.2)) (made_rep (!n) l hL hl) (Ev.now _)
/-- zint.Sub. -/
theorem zsub_ev (n m : Bool) (a b : List Int) (ha : Limbs a) (hb : Limbs b) (la : a.length ≤ 70368744177663) (lb : b.length ≤ 70368744177663) : Ev (fun k => zint_Sub.f k n a m b) (rep (ival n a - ival m b)) := by
  have h1 := zneg_ev m b hb (by omega)
  have hlen := rep_neg_len m hb
  have h2 := zadd_ev n (rep (-ival m b)).1 a (rep (-ival m b)).2 ha (rep_limbs _) la (by omega)
  rw [ival_rep] at h2
  exact Ev.bind h1 (Ev.bind (f := fun _ bt => some (bt.1, bt.2)) h2 (Ev.now _))
/-- zint.Abs. -/
theorem zabs_ev (n : Bool) (l : List Int) (hL : Limbs l) (hl : l.length ≤ 70368744177664) : Ev (fun k => zint_Abs.f k n l) (rep (ival false l)) :=
  Ev.bind (g := fun k => zint_made.f k false l) (f := fun _ (bt : Bool × List Int) => some (bt.1, bt.2)) (made_rep false l hL hl) (Ev.now (rep (ival false l)))
theorem rabs_ev (n : Bool) (l : List Int) (hL : Limbs l) (hl : l.length ≤ 35184372088832) : Ev (fun k => trammelref02_Abs.f k n l) (rep (ival false l)) :=
  Ev.bind (g := fun k => trammelref02_made.f k false l) (f := fun _ (bt : Bool × List Int) => some (bt.1, bt.2)) (rmade_rep false l hL hl) (Ev.now (rep (ival false l)))
theorem kept_ev (n : Bool) (l : List Int) (hl : l.length ≤ 4611686018427387904) : Ev (fun k => trammellaw02_kept.f k n l n l) true :=
  Ev.bind (g := fun k => trammellaw02_eq.f k n l n l) (f := fun _ (t : Bool) => some t) (eq_ev n l hl) (Ev.now true)
theorem sums_j1 (n m : Bool) (a b : List Int) (la : a.length ≤ 1048576) (lb : b.length ≤ 1048576) : Ev (fun k => trammellaw02_ZintSums.j1 k false n a m b n a m b) true := by
  refine Ev.step (f := fun k => (trammellaw02_kept.f k n a n a).bind fun t => if t = true then ((trammellaw02_kept.f k m b m b).bind fun u => some u) else some false) (fun k => ?_) ?_
  · simp only [trammellaw02_ZintSums.j1]
    rw [if_neg (by decide)]
  · refine Ev.bind (kept_ev n a (by omega)) ?_
    simp only [if_true]
    exact Ev.bind (f := fun _ u => some u) (kept_ev m b (by omega)) (Ev.now _)
theorem sums_j0 (n m : Bool) (a b : List Int) (ha : Limbs a) (hb : Limbs b) (la : a.length ≤ 1048576) (lb : b.length ≤ 1048576) : Ev (fun k => trammellaw02_ZintSums.j0 k false n a m b n a m b) true := by
  have l1 := rep_neg_len n ha
  have l2 := rep_ival_len false ha
  refine Ev.step (f := fun k => (zint_Neg.f k n a).bind fun p => (trammelref02_Neg.f k n a).bind fun q => (trammellaw02_eq.f k p.1 p.2 q.1 q.2).bind fun t => if t = true then ((zint_Abs.f k n a).bind fun u => (trammelref02_Abs.f k n a).bind fun v => (trammellaw02_eq.f k u.1 u.2 v.1 v.2).bind fun s => trammellaw02_ZintSums.j1 k (!s) n a m b n a m b) else trammellaw02_ZintSums.j1 k true n a m b n a m b) (fun k => ?_) ?_
  · simp only [trammellaw02_ZintSums.j0]
    rw [if_neg (by decide)]
  · refine Ev.bind (zneg_ev n a ha (by omega)) (Ev.bind (rneg_ev n a ha (by omega)) (Ev.bind (eq_ev _ _ (by omega)) ?_))
    simp only [if_true]
    refine Ev.bind (zabs_ev n a ha (by omega)) (Ev.bind (rabs_ev n a ha (by omega)) (Ev.bind (f := fun k s => trammellaw02_ZintSums.j1 k (!s) n a m b n a m b) (eq_ev _ _ (by omega)) ?_))
    exact sums_j1 n m a b la lb
theorem rep_len_add (n m : Bool) {a b : List Int} (ha : Limbs a) (hb : Limbs b) : (rep (ival n a + ival m b)).2.length ≤ max a.length b.length + 1 ∧ (rep (ival n a - ival m b)).2.length ≤ max a.length b.length + 1 := by
  have h1 := add_len ha hb
  have h2 : (ival n a + ival m b).natAbs ≤ val a + val b ∧ (ival n a - ival m b).natAbs ≤ val a + val b := by
    unfold ival
    cases n <;> cases m <;> simp <;> omega
  exact ⟨Nat.le_trans (toL_mono h2.1) h1, Nat.le_trans (toL_mono h2.2) h1⟩
theorem rep_len_mul (n m : Bool) {a b : List Int} (ha : Limbs a) (hb : Limbs b) : (rep (ival n a * ival m b)).2.length ≤ a.length + b.length := by
  rw [← ival_mul]
  have h1 := mul_len ha hb
  exact Nat.le_trans (rep_ival_len _ (limbs_toL _)) h1
theorem sums_ev (n m : Bool) (a b : List Int) (ha : Limbs a) (hb : Limbs b) (la : a.length ≤ 1048576) (lb : b.length ≤ 1048576) : Ev (fun k => trammellaw02_ZintSums.f k n a m b) true := by
  obtain ⟨l1, l2⟩ := rep_len_add n m ha hb
  have l3 := rep_len_mul n m ha hb
  refine Ev.congr (f := fun k => (zint_Add.f k n a m b).bind fun p => (trammelref02_Add.f k n a m b).bind fun q => (trammellaw02_eq.f k p.1 p.2 q.1 q.2).bind fun t => if t = true then ((zint_Sub.f k n a m b).bind fun p => (trammelref02_Sub.f k n a m b).bind fun q => (trammellaw02_eq.f k p.1 p.2 q.1 q.2).bind fun t => if t = true then ((zint_Mul.f k n a m b).bind fun p => (trammelref02_Mul.f k n a m b).bind fun q => (trammellaw02_eq.f k p.1 p.2 q.1 q.2).bind fun t => trammellaw02_ZintSums.j0 k (!t) n a m b n a m b) else trammellaw02_ZintSums.j0 k true n a m b n a m b) else trammellaw02_ZintSums.j0 k true n a m b n a m b) (fun k => ?_) ?_
  · unfold trammellaw02_ZintSums.f
    rw [own_ev n a (by omega), Option.bind_some, own_ev m b (by omega), Option.bind_some]
  · refine Ev.bind (zadd_ev n m a b ha hb (by omega) (by omega)) (Ev.bind (r2add_ev n m a b ha hb (by omega)) (Ev.bind (eq_ev _ _ (by omega)) ?_))
    simp only [if_true]
    refine Ev.bind (zsub_ev n m a b ha hb (by omega) (by omega)) (Ev.bind (r2sub_ev n m a b ha hb (by omega)) (Ev.bind (eq_ev _ _ (by omega)) ?_))
    simp only [if_true]
    refine Ev.bind (zmul_ev n m a b ha hb (by omega)) (Ev.bind (r2mul_ev n m a b ha hb (by omega)) (Ev.bind (f := fun k t => trammellaw02_ZintSums.j0 k (!t) n a m b n a m b) (eq_ev _ _ (by omega)) ?_))
    exact sums_j0 n m a b ha hb la lb

end Go.Proofs.Ytgnonaokinfaeaa.PSums
