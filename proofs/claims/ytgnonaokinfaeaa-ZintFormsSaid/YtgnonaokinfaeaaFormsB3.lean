/- Plain lemmas on the printed functions of ZintForms: what each comes to. -/
import Derived.Test.YtgnonaokinfaeaaFormsA8
import Derived.Test.YtgnonaokinfaeaaFormsB2
import Derived.Test.YtgnonaokinfaeaaSteps
namespace Go.Proofs.Ytgnonaokinfaeaa.PForms
open Go.RowKit Go.Proofs.YtgnonaokinfaeaaW.PrintWords Go.Proofs.YtgnonaokinfaeaaW.PrintMore Go.Proofs.Ytgnonaokinfaeaa.Num
set_option linter.unusedVariables false

theorem ival_not (n : Bool) (l : List Int) : ival (!n) l = -ival n l := by
  unfold ival
  cases n <;> simp
/-- The document's Neg. -/
theorem rneg_ev (n : Bool) (l : List Int) (hL : Limbs l) (hl : l.length ≤ 35184372088832) : Ev (fun k => trammelref02_Neg.f k n l) (rep (-ival n l)) := by
  rw [← ival_not]
  exact Ev.bind (f := fun _ bt => some (bt.1, bt.2)) (rmade_rep (!n) l hL hl) (Ev.now _)
/-- The document's Sub. -/
theorem r2sub_ev (n m : Bool) (a b : List Int) (ha : Limbs a) (hb : Limbs b) (hl : max a.length b.length < 35184372088832) : Ev (fun k => trammelref02_Sub.f k n a m b) (rep (ival n a - ival m b)) := by
  have h1 := rneg_ev m b hb (by omega)
  have hlen : (rep (-ival m b)).2.length ≤ b.length := by
    have : (-ival m b).natAbs = val b := by
      unfold ival
      cases m <;> simp
    unfold rep
    rw [this]
    exact toL_le_of_limbs hb
  have h2 := r2add_ev n (rep (-ival m b)).1 a (rep (-ival m b)).2 ha (rep_limbs _) (by omega)
  rw [ival_rep] at h2
  exact Ev.bind h1 (Ev.bind (f := fun _ bt => some (bt.1, bt.2)) h2 (Ev.now _))

/-- The document's Sign. -/
theorem rsign_ev (n : Bool) (l : List Int) (hL : Limbs l) (hl : l.length ≤ 35184372088832) : Ev (fun k => trammelref02_Sign.f k n l) (sgn (ival n l)) := by
  rw [sgn_ival]
  have h0 := val_zero_of_strip hL
  refine Ev.bind (rnorm_ev l hl) ?_
  by_cases hv : val l = 0
  · rw [if_pos hv]
    refine Ev.congr (f := fun _ => some 0) (fun k => ?_) (Ev.now _)
    rw [h0.2 hv]
    rfl
  · rw [if_neg hv]
    have hne : ¬ ((strip l).length : Int) = 0 := by
      intro h
      exact hv (h0.1 (List.eq_nil_of_length_eq_zero (by omega)))
    refine Ev.congr (f := fun _ => some (if n = true then -1 else 1)) (fun k => ?_) (Ev.now _)
    simp only [if_neg hne]
    split <;> rfl
theorem rep_len_sub (n m : Bool) {a b : List Int} (ha : Limbs a) (hb : Limbs b) : (rep (ival n a - ival m b)).2.length ≤ max a.length b.length + 1 := by
  have h1 := add_len ha hb
  have h2 : (ival n a - ival m b).natAbs ≤ val a + val b := by
    unfold ival
    cases n <;> cases m <;> simp <;> omega
  exact Nat.le_trans (toL_mono h2) h1
/-- The document's Cmp. -/
theorem r2cmp_ev (n m : Bool) (a b : List Int) (ha : Limbs a) (hb : Limbs b) (hl : max a.length b.length < 35184372088832) : Ev (fun k => trammelref02_Cmp.f k n a m b) (sgn (ival n a - ival m b)) := by
  have h1 := rep_len_sub n m ha hb
  have h2 := rsign_ev (rep (ival n a - ival m b)).1 (rep (ival n a - ival m b)).2 (rep_limbs _) (by omega)
  rw [ival_rep] at h2
  exact Ev.bind (r2sub_ev n m a b ha hb hl) (Ev.bind (f := fun _ t => some t) h2 (Ev.now _))

theorem rsmall_l0 (n : Bool) (l t : List Int) (hL : Limbs t) (hv : val t ≤ 9223372036854775808) (hlt : t.length ≤ 4611686018427387904) : ∀ m : Nat, m ≤ t.length →
    Ev (fun k => trammelref02_Small.l0 k t (val (t.drop m) : Int) ((m : Int) - 1) n l) (if n = true then wrap64 (IntKind.u64.wrap (-(val t : Int))) else wrap64 (val t : Int), true) := by
  intro m
  induction m with
  | zero =>
    intro _
    refine Ev.step (f := fun _ => some (if n = true then wrap64 (IntKind.u64.wrap (-(val t : Int))) else wrap64 (val t : Int), true)) (fun k => ?_) (Ev.now _)
    simp only [trammelref02_Small.l0]
    rw [if_neg (by omega), List.drop_zero]
    split <;> rfl
  | succ m ih =>
    intro hm
    have he : ((m + 1 : Nat) : Int) - 1 = (m : Int) := by omega
    have hx := hL.rd m
    have hd := val_drop_le (l := t) m
    have hd1 := val_drop_le (l := t) (m + 1)
    rw [drop_rd (show m < t.length by omega), val] at hd
    rw [he]
    refine Ev.step (f := fun k => trammelref02_Small.l0 k t (val (t.drop m) : Int) ((m : Int) - 1) n l) (fun k => ?_) (ih (by omega))
    simp only [trammelref02_Small.l0]
    rw [if_pos (by omega), if_pos (by omega), if_pos (by omega), rd_nat, u64w (t.getD m 0) (by omega) (by omega), u64w ((val (t.drop (m + 1)) : Int) * 4294967296) (by omega) (by omega), u64w _ (by omega) (by omega), w64 _ (by omega) (by omega)]
    congr 1
    rw [drop_rd (show m < t.length by omega), val]
    omega
theorem rsmall_j0 (n : Bool) (l : List Int) (hL : Limbs l) (hl : l.length ≤ 35184372088832) (b : Bool) (h : b = false → -9223372036854775808 ≤ ival n l ∧ ival n l ≤ 9223372036854775807) :
    Ev (fun k => trammelref02_Small.j0 k b n l) (if b = true then (0, false) else (ival n l, true)) := by
  cases b with
  | true =>
    refine Ev.step (f := fun _ => some (0, false)) (fun k => ?_) (Ev.now _)
    simp only [trammelref02_Small.j0]
    rfl
  | false =>
    obtain ⟨h1, h2⟩ := h rfl
    have hr := rnorm_ev l hl
    have hs := strip_le l
    rw [strip_eq hL] at hr hs
    have hv : val l ≤ 9223372036854775808 := by
      unfold ival at h1 h2
      cases n <;> simp at h1 h2 <;> omega
    have hloop := rsmall_l0 n l (toL (val l)) (limbs_toL _) (by rw [val_toL]; exact hv) (by omega) (toL (val l)).length (Nat.le_refl _)
    rw [List.drop_length, val_toL] at hloop
    have e : (if n = true then wrap64 (IntKind.u64.wrap (-(val l : Int))) else wrap64 (val l : Int), true) = (ival n l, true) := by
      congr 1
      unfold ival at h1 h2 ⊢
      cases n with
      | true =>
        simp only [if_true] at h1 h2 ⊢
        rw [IntKind.wrap_u64]
        unfold wrap64
        omega
      | false =>
        simp only [Bool.false_eq_true, if_false] at h1 h2 ⊢
        unfold wrap64
        omega
    rw [e] at hloop
    refine Ev.step (f := fun k => (trammelref01_Norm.f k l).bind fun t => trammelref02_Small.l0 k t 0 (wrap64 ((t.length : Int) - 1)) n l) (fun k => ?_) (Ev.bind hr (Ev.congr (fun k => ?_) hloop))
    · simp only [trammelref02_Small.j0]
      rw [if_neg (by decide)]
    · rw [w64 _ (by omega) (by omega)]
      rfl
/-- The document's Small. -/
theorem rsmall_ev (n : Bool) (l : List Int) (hL : Limbs l) (hl : l.length < 35184372088832) : Ev (fun k => trammelref02_Small.f k n l) (smallZ (ival n l)) := by
  have b1 : (rep (-9223372036854775808)).2.length ≤ 2 := toL_len _ _ (by decide)
  have b2 : (rep 9223372036854775807).2.length ≤ 2 := toL_len _ _ (by decide)
  have c1 := r2cmp_ev n (rep (-9223372036854775808)).1 l (rep (-9223372036854775808)).2 hL (rep_limbs _) (by omega)
  have c2 := r2cmp_ev n (rep 9223372036854775807).1 l (rep 9223372036854775807).2 hL (rep_limbs _) (by omega)
  rw [ival_rep] at c1 c2
  refine Ev.bind (rof_ev _ (by decide) (by decide)) (Ev.bind c1 ?_)
  by_cases h1 : ival n l - -9223372036854775808 < 0
  · have hj := rsmall_j0 n l hL (by omega) true (fun h => by cases h)
    have e1 : sgn (ival n l - -9223372036854775808) < 0 := by
      unfold sgn
      rw [if_pos h1]
      decide
    have e2 : smallZ (ival n l) = (0, false) := by
      unfold smallZ
      rw [if_neg (by omega)]
    rw [e2]
    refine Ev.congr (fun k => ?_) hj
    simp only [if_pos e1]
  · have e1 : ¬ sgn (ival n l - -9223372036854775808) < 0 := by
      unfold sgn
      rw [if_neg h1]
      split <;> decide
    simp only [if_neg e1]
    refine Ev.bind (rof_ev _ (by decide) (by decide)) (Ev.bind c2 ?_)
    by_cases h2 : 9223372036854775807 < ival n l
    · have hj := rsmall_j0 n l hL (by omega) true (fun h => by cases h)
      have e3 : decide (sgn (ival n l - 9223372036854775807) > 0) = true := by
        unfold sgn
        rw [if_neg (by omega), if_neg (by omega)]
        decide
      have e2 : smallZ (ival n l) = (0, false) := by
        unfold smallZ
        rw [if_neg (by omega)]
      rw [e2]
      refine Ev.congr (fun k => ?_) hj
      simp only [e3]
    · have hj := rsmall_j0 n l hL (by omega) false (fun _ => by omega)
      have e3 : decide (sgn (ival n l - 9223372036854775807) > 0) = false := by
        unfold sgn
        split
        · decide
        · rw [if_pos (by omega)]
          decide
      have e2 : smallZ (ival n l) = (ival n l, true) := by
        unfold smallZ
        rw [if_pos (by omega)]
      rw [e2]
      refine Ev.congr (fun k => ?_) hj
      simp only [e3]

/-- zint.Compare. -/
theorem zcompare_ev (n m : Bool) (a b : List Int) (ha : Limbs a) (hb : Limbs b) (la : a.length ≤ 70368744177664) (lb : b.length ≤ 70368744177664) : Ev (fun k => zint_Compare.f k n a m b) (sgn (ival n a - ival m b)) := by
  refine Ev.bind (zsign_ev n a ha la) (Ev.bind (zsign_ev m b hb lb) ?_)
  have hs1 : sgn (ival n a) = -1 ∧ ival n a < 0 ∨ sgn (ival n a) = 0 ∧ ival n a = 0 ∨ sgn (ival n a) = 1 ∧ 0 < ival n a := by unfold sgn; split <;> (try split) <;> simp <;> omega
  have hs2 : sgn (ival m b) = -1 ∧ ival m b < 0 ∨ sgn (ival m b) = 0 ∧ ival m b = 0 ∨ sgn (ival m b) = 1 ∧ 0 < ival m b := by unfold sgn; split <;> (try split) <;> simp <;> omega
  by_cases h1 : sgn (ival n a) < sgn (ival m b)
  · have e : sgn (ival n a - ival m b) = -1 := by
      unfold sgn
      rw [if_pos (by omega)]
    rw [e]
    refine Ev.congr (f := fun _ => some (-1)) (fun k => ?_) (Ev.now _)
    simp only [if_pos h1]
  · by_cases h2 : sgn (ival n a) > sgn (ival m b)
    · have e : sgn (ival n a - ival m b) = 1 := by
        unfold sgn
        rw [if_neg (by omega), if_neg (by omega)]
      rw [e]
      refine Ev.congr (f := fun _ => some 1) (fun k => ?_) (Ev.now _)
      simp only [if_neg h1, if_pos h2]
    · have hq : sgn (ival n a) = sgn (ival m b) := by omega
      have hr : wrap64 (sgn (ival n a) * cmpN (val a) (val b)) = sgn (ival n a - ival m b) := by
        have hc : cmpN (val a) (val b) = -1 ∧ val a < val b ∨ cmpN (val a) (val b) = 1 ∧ val b < val a ∨ cmpN (val a) (val b) = 0 ∧ val a = val b := by
          unfold cmpN
          split
          · simp; omega
          · split
            · simp; omega
            · simp; omega
        have hi1 : ival n a = (val a : Int) ∨ ival n a = -(val a : Int) := by unfold ival; cases n <;> simp
        have hi2 : ival m b = (val b : Int) ∨ ival m b = -(val b : Int) := by unfold ival; cases m <;> simp
        have hres : ∀ z : Int, (z < 0 → sgn z = -1) ∧ (z = 0 → sgn z = 0) ∧ (0 < z → sgn z = 1) := by
          intro z
          unfold sgn
          refine ⟨fun h => by rw [if_pos h], fun h => by rw [if_neg (by omega), if_pos h], fun h => by rw [if_neg (by omega), if_neg (by omega)]⟩
        obtain ⟨r1, r2, r3⟩ := hres (ival n a - ival m b)
        rcases hs1 with ⟨e1, p1⟩ | ⟨e1, p1⟩ | ⟨e1, p1⟩ <;> rcases hs2 with ⟨e2, p2⟩ | ⟨e2, p2⟩ | ⟨e2, p2⟩ <;> rcases hc with ⟨e3, p3⟩ | ⟨e3, p3⟩ | ⟨e3, p3⟩ <;> rw [e1, e3] <;> unfold wrap64 <;> omega
      rw [← hr]
      refine Ev.congr (f := fun k => (nat_Cmp.f k a b).bind fun t => some (wrap64 (sgn (ival n a) * t))) (fun k => ?_) (Ev.bind (f := fun _ t => some (wrap64 (sgn (ival n a) * t))) (ncmp_ev a b ha hb (by omega) (by omega)) (Ev.now _))
      simp only [if_neg h1, if_neg h2]

end Go.Proofs.Ytgnonaokinfaeaa.PForms
