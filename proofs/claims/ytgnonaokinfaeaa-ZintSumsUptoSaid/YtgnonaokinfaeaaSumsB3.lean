/- Plain lemmas on the printed functions of ZintSums: what each comes to. -/
import Derived.Test.YtgnonaokinfaeaaSumsA8
import Derived.Test.YtgnonaokinfaeaaSumsB2
import Derived.Test.YtgnonaokinfaeaaMul
import Derived.Test.YtgnonaokinfaeaaSteps
namespace Go.Proofs.Ytgnonaokinfaeaa.PSums
open Go.RowKit Go.Proofs.YtgnonaokinfaeaaW.PrintWords Go.Proofs.YtgnonaokinfaeaaW.PrintMore Go.Proofs.Ytgnonaokinfaeaa.Num
set_option linter.unusedVariables false

theorem rnorm_l1 (l : List Int) (n : Nat) (hn : n ≤ l.length) (hl : n ≤ 35184372088832) : ∀ (j i : Nat), n - i = j → i ≤ n → Ev (fun k => trammelref01_Norm.l1 k l (n : Int) (l.take i) (i : Int)) (l.take n) := by
  intro j
  induction j with
  | zero =>
    intro i hj hi
    obtain rfl : i = n := by omega
    refine Ev.step (f := fun _ => some (l.take i)) (fun k => ?_) (Ev.now _)
    simp only [trammelref01_Norm.l1]
    rw [if_neg (by omega)]
  | succ j ih =>
    intro i hj hi
    refine Ev.step (f := fun k => trammelref01_Norm.l1 k l (n : Int) (l.take (i + 1)) ((i + 1 : Nat) : Int)) (fun k => ?_) (ih (i + 1) (by omega) (by omega))
    simp only [trammelref01_Norm.l1]
    rw [if_pos (by omega), if_pos (by omega), if_pos (by omega), if_pos (by simp; omega), rd_nat, ← take_rd (show i < l.length by omega), w64 _ (by omega) (by omega)]
    rfl
theorem rnorm_l0 (l : List Int) (hl : l.length ≤ 35184372088832) : ∀ m : Nat, m ≤ l.length → Ev (fun k => trammelref01_Norm.l0 k l (m : Int)) (strip (l.take m)) := by
  intro m
  induction m with
  | zero =>
    intro _
    refine Ev.step (f := fun k => trammelref01_Norm.j1 k l ((0 : Nat) : Int)) (fun k => ?_) ?_
    · simp only [trammelref01_Norm.l0]
      rw [if_neg (by omega)]
    · refine Ev.step (f := fun k => trammelref01_Norm.l1 k l ((0 : Nat) : Int) [] 0) (fun k => ?_) ?_
      · simp only [trammelref01_Norm.j1]
      · exact rnorm_l1 l 0 (by omega) (by omega) 0 0 rfl (by omega)
  | succ m ih =>
    intro hm
    have hw : wrap64 (((m + 1 : Nat) : Int) - 1) = (m : Int) := by rw [w64 _ (by omega) (by omega)]; omega
    rw [take_rd (show m < l.length by omega)]
    by_cases h0 : l.getD m 0 = 0
    · rw [h0, strip_snoc_zero]
      refine Ev.step (f := fun k => trammelref01_Norm.l0 k l (m : Int)) (fun k => ?_) (ih (by omega))
      simp only [trammelref01_Norm.l0]
      rw [if_pos (by omega), hw, if_pos (by omega), if_pos (by omega), rd_nat, if_pos h0]
    · rw [strip_snoc_ne _ h0, ← take_rd (show m < l.length by omega)]
      refine Ev.step (f := fun k => trammelref01_Norm.j1 k l ((m + 1 : Nat) : Int)) (fun k => ?_) ?_
      · simp only [trammelref01_Norm.l0]
        rw [if_pos (by omega), hw, if_pos (by omega), if_pos (by omega), rd_nat, if_neg h0]
      · refine Ev.step (f := fun k => trammelref01_Norm.l1 k l ((m + 1 : Nat) : Int) [] 0) (fun k => ?_) ?_
        · simp only [trammelref01_Norm.j1]
        · exact rnorm_l1 l (m + 1) (by omega) (by omega) (m + 1) 0 (by omega) (by omega)
theorem rnorm_ev (l : List Int) (hl : l.length ≤ 35184372088832) : Ev (fun k => trammelref01_Norm.f k l) (strip l) := by
  have := rnorm_l0 l hl l.length (Nat.le_refl _)
  rw [List.take_length] at this
  exact this

/-- The document's made. -/
theorem rmade_rep (a : Bool) (l : List Int) (hL : Limbs l) (hl : l.length ≤ 35184372088832) : Ev (fun k => trammelref02_made.f k a l) (rep (ival a l)) := by
  rw [rep_of a l hL]
  refine Ev.bind (rnorm_ev l hl) ?_
  cases a with
  | true =>
    refine Ev.congr (f := fun _ => some (true && decide (0 < (strip l).length), strip l)) (fun k => ?_) (Ev.now _)
    simp only [if_true, Bool.true_and]
    congr 2
    exact decide_eq_decide.2 (by omega)
  | false => exact Ev.congr (f := fun _ => some (false && decide (0 < (strip l).length), strip l)) (fun k => rfl) (Ev.now _)

theorem rmost (m n : Nat) : trammelref01_most.f (m : Int) (n : Int) = some ((max m n : Nat) : Int) := by
  unfold trammelref01_most.f
  split
  · congr 1
    omega
  · congr 1
    omega
theorem rlimb {l : List Int} (hL : Limbs l) (i : Nat) : trammelref01_limb.f l (i : Int) = some (l.getD i 0) := by
  have h := hL.rd i
  unfold trammelref01_limb.f
  split
  · rw [if_pos (by omega), rd_nat, u64w _ (by omega) (by omega)]
  · rw [getD_out (by omega)]

theorem radd_l0 (x0 x1 : List Int) (h0 : Limbs x0) (h1 : Limbs x1) (hl : max x0.length x1.length < 35184372088832) : ∀ (j i : Nat) (d : List Int) (c : Int), max x0.length x1.length - i = j → i ≤ max x0.length x1.length → d.length = i → 0 ≤ c → c ≤ 1 →
    Ev (fun k => trammelref01_Add.l0 k x0 x1 d c (i : Int)) (strip (d ++ addE c (pad j (x0.drop i)) (pad j (x1.drop i)))) := by
  intro j
  induction j with
  | zero =>
    intro i d c hj hi hd hc0 hc1
    have hc : c % 4294967296 = c := by omega
    refine Ev.step (f := fun k => (trammelref01_Norm.f k (d ++ [c])).bind fun t => some t) (fun k => ?_) ?_
    · simp only [trammelref01_Add.l0]
      rw [rmost, Option.bind_some, if_neg (by omega), if_pos (by omega), hc]
    · exact Ev.bind (f := fun _ t => some t) (rnorm_ev (d ++ [c]) (by simp; omega)) (Ev.now _)
  | succ j ih =>
    intro i d c hj hi hd hc0 hc1
    have hx := h0.rd i
    have hy := h1.rd i
    rw [pad_drop, pad_drop]
    have hstep : d ++ addE c (x0.getD i 0 :: pad j (x0.drop (i + 1))) (x1.getD i 0 :: pad j (x1.drop (i + 1))) = (d ++ [(c + x0.getD i 0 + x1.getD i 0) % 4294967296]) ++ addE ((c + x0.getD i 0 + x1.getD i 0) / 4294967296) (pad j (x0.drop (i + 1))) (pad j (x1.drop (i + 1))) := by
      simp [addE]
    rw [hstep]
    refine Ev.step (f := fun k => trammelref01_Add.l0 k x0 x1 (d ++ [(c + x0.getD i 0 + x1.getD i 0) % 4294967296]) ((c + x0.getD i 0 + x1.getD i 0) / 4294967296) ((i + 1 : Nat) : Int)) (fun k => ?_)
      (ih (i + 1) _ _ (by omega) (by omega) (by simp; omega) (by omega) (by omega))
    simp only [trammelref01_Add.l0]
    have hw : wrap64 ((i : Int) + 1) = ((i + 1 : Nat) : Int) := by rw [w64 _ (by omega) (by omega)]; omega
    rw [rmost, Option.bind_some, if_pos (by omega), rlimb h0, Option.bind_some, rlimb h1, Option.bind_some, if_pos (by omega), hw, u64w (c + x0.getD i 0) (by omega) (by omega), u64w (c + x0.getD i 0 + x1.getD i 0) (by omega) (by omega),
      Int.tmod_eq_emod_of_nonneg (by omega), Int.tdiv_eq_ediv_of_nonneg (by omega), u64w _ (by omega) (by omega), Int.emod_emod_of_dvd _ (Int.dvd_refl _)]
/-- The document's sum of magnitudes. -/
theorem radd_ev (x0 x1 : List Int) (h0 : Limbs x0) (h1 : Limbs x1) (hl : max x0.length x1.length < 35184372088832) : Ev (fun k => trammelref01_Add.f k x0 x1) (toL (val x0 + val x1)) := by
  have h := radd_l0 x0 x1 h0 h1 hl (max x0.length x1.length) 0 [] 0 (by omega) (by omega) rfl (by decide) (by decide)
  simp only [List.nil_append, List.drop_zero] at h
  obtain ⟨hv, hL⟩ := addE_val (pad (max x0.length x1.length) x0) (pad (max x0.length x1.length) x1) 0 (by rw [pad_length, pad_length]) (pad_limbs _ h0) (pad_limbs _ h1) (by decide) (by decide)
  rw [strip_eq hL, hv, val_pad _ _ (Nat.le_max_left _ _), val_pad _ _ (Nat.le_max_right _ _)] at h
  have e : (0 : Int).toNat + val x0 + val x1 = val x0 + val x1 := by simp
  rw [e] at h
  exact h

theorem rcmp_l0 (a b : List Int) (ha : Limbs a) (hb : Limbs b) : ∀ m : Nat, m ≤ 4611686018427387904 → Ev (fun k => trammelref01_Cmp.l0 k a b ((m : Int) - 1)) (cmpN (val (pad m a)) (val (pad m b))) := by
  intro m
  induction m with
  | zero =>
    intro _
    refine Ev.step (f := fun _ => some (cmpN (val (pad 0 a)) (val (pad 0 b)))) (fun k => ?_) (Ev.now _)
    simp only [trammelref01_Cmp.l0]
    rw [if_neg (by omega)]
    simp [val, cmpN, pad]
  | succ m ih =>
    intro hm
    have he : ((m + 1 : Nat) : Int) - 1 = (m : Int) := by omega
    have hx := ha.rd m
    have hy := hb.rd m
    have hL : (pad m a).length = (pad m b).length := by rw [pad_length, pad_length]
    rw [he, pad_snoc, pad_snoc]
    by_cases hc : a.getD m 0 < b.getD m 0
    · rw [cmpN_lt (val_snoc_lt hL (pad_limbs m ha) hx.1 hc)]
      refine Ev.step (f := fun _ => some (-1)) (fun k => ?_) (Ev.now _)
      simp only [trammelref01_Cmp.l0]
      rw [if_pos (by omega), rlimb ha, Option.bind_some, rlimb hb, Option.bind_some, if_pos hc]
    · by_cases hd : a.getD m 0 > b.getD m 0
      · rw [cmpN_gt (val_snoc_lt hL.symm (pad_limbs m hb) hy.1 hd)]
        refine Ev.step (f := fun _ => some 1) (fun k => ?_) (Ev.now _)
        simp only [trammelref01_Cmp.l0]
        rw [if_pos (by omega), rlimb ha, Option.bind_some, rlimb hb, Option.bind_some, if_neg hc, if_pos hd]
      · have hq : a.getD m 0 = b.getD m 0 := by omega
        rw [hq, cmpN_snoc_same hL]
        refine Ev.step (f := fun k => trammelref01_Cmp.l0 k a b ((m : Int) - 1)) (fun k => ?_) (ih (by omega))
        simp only [trammelref01_Cmp.l0]
        rw [if_pos (by omega), rlimb ha, Option.bind_some, rlimb hb, Option.bind_some, if_neg hc, if_neg hd, w64 _ (by omega) (by omega)]
theorem rcmp_ev (a b : List Int) (ha : Limbs a) (hb : Limbs b) (hl : max a.length b.length ≤ 4611686018427387904) : Ev (fun k => trammelref01_Cmp.f k a b) (cmpN (val a) (val b)) := by
  have h := rcmp_l0 a b ha hb (max a.length b.length) hl
  rw [val_pad _ _ (Nat.le_max_left _ _), val_pad _ _ (Nat.le_max_right _ _)] at h
  refine Ev.congr (fun k => ?_) h
  unfold trammelref01_Cmp.f
  rw [rmost, Option.bind_some, w64 _ (by omega) (by omega)]

theorem rless_l0 (x0 x1 : List Int) (h0 : Limbs x0) (h1 : Limbs x1) (hl : x0.length ≤ 35184372088832) : ∀ (j i : Nat) (d : List Int) (c : Int), x0.length - i = j → i ≤ x0.length → d.length = i → 0 ≤ c → c ≤ 1 →
    Ev (fun k => trammelref01_less.l0 k x0 x1 d c (i : Int)) (strip (d ++ subE c (x0.drop i) (pad j (x1.drop i)))) := by
  intro j
  induction j with
  | zero =>
    intro i d c hj hi hd hc0 hc1
    have hfin : d ++ subE c (x0.drop i) (pad 0 (x1.drop i)) = d := by
      rw [List.drop_eq_nil_of_le (by omega)]
      simp [subE]
    rw [hfin]
    refine Ev.step (f := fun k => (trammelref01_Norm.f k d).bind fun t => some t) (fun k => ?_) ?_
    · simp only [trammelref01_less.l0]
      rw [if_neg (by omega)]
    · exact Ev.bind (f := fun _ t => some t) (rnorm_ev d (by omega)) (Ev.now _)
  | succ j ih =>
    intro i d c hj hi hd hc0 hc1
    have hx := h0.rd i
    have hy := h1.rd i
    rw [drop_rd (show i < x0.length by omega), pad_drop]
    have hstep : d ++ subE c (x0.getD i 0 :: x0.drop (i + 1)) (x1.getD i 0 :: pad j (x1.drop (i + 1))) = (d ++ [(x0.getD i 0 - c - x1.getD i 0) % 4294967296]) ++ subE (if x0.getD i 0 - c - x1.getD i 0 < 0 then 1 else 0) (x0.drop (i + 1)) (pad j (x1.drop (i + 1))) := by
      simp [subE]
    rw [hstep]
    refine Ev.step (f := fun k => trammelref01_less.l0 k x0 x1 (d ++ [(x0.getD i 0 - c - x1.getD i 0) % 4294967296]) (if x0.getD i 0 - c - x1.getD i 0 < 0 then 1 else 0) ((i + 1 : Nat) : Int)) (fun k => ?_)
      (ih (i + 1) _ _ (by omega) (by omega) (by simp; omega) (by split <;> omega) (by split <;> omega))
    simp only [trammelref01_less.l0]
    have hw : wrap64 ((i : Int) + 1) = ((i + 1 : Nat) : Int) := by rw [w64 _ (by omega) (by omega)]; omega
    rw [if_pos (by omega), rlimb h0, Option.bind_some, rlimb h1, Option.bind_some, hw, u64w (x1.getD i 0 + c) (by omega) (by omega)]
    by_cases hc : x0.getD i 0 < x1.getD i 0 + c
    · rw [if_pos hc, if_pos (by omega), if_pos (by omega), u64w (x0.getD i 0 + 4294967296) (by omega) (by omega), u64w _ (by omega) (by omega)]
      congr 3
      omega
    · rw [if_neg hc, if_pos (by omega), if_neg (by omega), u64w _ (by omega) (by omega)]
      congr 3
      omega
/-- The document's difference of magnitudes, of which the second is not greater. -/
theorem rless_ev (x0 x1 : List Int) (h0 : Limbs x0) (h1 : Limbs x1) (hl : x0.length ≤ 35184372088832) (hv : val x1 ≤ val x0) : Ev (fun k => trammelref01_less.f k x0 x1) (toL (val x0 - val x1)) := by
  have h := rless_l0 x0 x1 h0 h1 hl x0.length 0 [] 0 (by omega) (by omega) rfl (by decide) (by decide)
  simp only [List.nil_append, List.drop_zero] at h
  have hp := val_pad_lt x0.length h1 (Nat.lt_of_le_of_lt hv (val_lt h0))
  obtain ⟨hs, hL⟩ := subE_val x0 (pad x0.length x1) 0 (by rw [pad_length]) h0 (pad_limbs _ h1) (by decide) (by decide) (by rw [hp]; simpa using hv)
  have e : val (subE 0 x0 (pad x0.length x1)) = val x0 - val x1 := by
    rw [hp] at hs
    simp at hs
    omega
  rw [strip_eq hL, e] at h
  exact h

theorem rsub_ev (a b : List Int) (ha : Limbs a) (hb : Limbs b) (hl : max a.length b.length ≤ 35184372088832) : Ev (fun k => trammelref01_Sub.f k a b) (if val a < val b then ([], 10) else (toL (val a - val b), 0)) := by
  refine Ev.bind (rcmp_ev a b ha hb (by omega)) ?_
  by_cases hc : val a < val b
  · rw [if_pos hc]
    refine Ev.congr (f := fun _ => some (([] : List Int), (10 : Int))) (fun k => ?_) (Ev.now _)
    simp only [if_pos (cmpN_neg.2 hc)]
  · rw [if_neg hc]
    refine Ev.congr (f := fun k => (trammelref01_less.f k a b).bind fun r => some (r, (0 : Int))) (fun k => ?_) ?_
    · simp only [if_neg (fun h => hc (cmpN_neg.1 h))]
    · exact Ev.bind (f := fun _ r => some (r, (0 : Int))) (rless_ev a b ha hb (by omega) (by omega)) (Ev.now _)

/-- The document's sum. -/
theorem r2add_ev (n m : Bool) (a b : List Int) (ha : Limbs a) (hb : Limbs b) (hl : max a.length b.length < 35184372088832) : Ev (fun k => trammelref02_Add.f k n a m b) (rep (ival n a + ival m b)) := by
  have len := add_len ha hb
  by_cases hs : (n == m) = true
  · have he : n = m := by simpa using hs
    subst he
    rw [← ival_same]
    refine Ev.congr (f := fun k => (trammelref01_Add.f k a b).bind fun t => (trammelref02_made.f k n t).bind fun bt => some (bt.1, bt.2)) (fun k => ?_) ?_
    · unfold trammelref02_Add.f
      rw [if_pos hs]
    · exact Ev.bind (radd_ev a b ha hb hl) (Ev.bind (f := fun _ bt => some (bt.1, bt.2)) (rmade_rep n _ (limbs_toL _) (by omega)) (Ev.now _))
  · have hsub : ∀ (x y : List Int) (o : Bool), Limbs x → Limbs y → max x.length y.length < 35184372088832 → val y ≤ val x →
        Ev (fun k => (trammelref01_Sub.f k x y).bind fun bt => (trammelref02_made.f k o bt.1).bind fun b2 => some (b2.1, b2.2)) (rep (ival o (toL (val x - val y)))) := by
      intro x y o hx hy lx hv
      have h1 := rsub_ev x y hx hy (by omega)
      rw [if_neg (by omega)] at h1
      have h2 := toL_mono (show val x - val y ≤ val x by omega)
      have h3 := toL_le_of_limbs hx
      exact Ev.bind h1 (Ev.bind (f := fun _ bt => some (bt.1, bt.2)) (rmade_rep o _ (limbs_toL _) (by omega)) (Ev.now _))
    have hne : m = !n := by
      cases n <;> cases m <;> simp at hs ⊢
    have hcong : ∀ k, trammelref02_Add.f k n a m b = ((trammelref01_Cmp.f k a b).bind fun t => if t ≥ 0 then ((trammelref01_Sub.f k a b).bind fun bt => (trammelref02_made.f k n bt.1).bind fun b2 => some (b2.1, b2.2)) else ((trammelref01_Sub.f k b a).bind fun bt => (trammelref02_made.f k m bt.1).bind fun b2 => some (b2.1, b2.2))) := by
      intro k
      unfold trammelref02_Add.f
      rw [if_neg hs]
    refine Ev.congr hcong ?_
    refine Ev.bind (rcmp_ev a b ha hb (by omega)) ?_
    by_cases hc : val a < val b
    · have h := hsub b a m hb ha (by omega) (by omega)
      have e : ival m (toL (val b - val a)) = ival n a + ival m b := by
        rw [hne]
        unfold ival
        rw [val_toL]
        cases n <;> simp <;> omega
      rw [e] at h
      have hq := cmpN_neg.2 hc
      simp only [if_neg (show ¬ cmpN (val a) (val b) ≥ 0 by omega)]
      exact h
    · have h := hsub a b n ha hb (by omega) (by omega)
      have e : ival n (toL (val a - val b)) = ival n a + ival m b := by
        rw [hne]
        unfold ival
        rw [val_toL]
        cases n <;> simp <;> omega
      rw [e] at h
      have hq : ¬ cmpN (val a) (val b) < 0 := fun h => hc (cmpN_neg.1 h)
      simp only [if_pos (show cmpN (val a) (val b) ≥ 0 by omega)]
      exact h

theorem rmul_l1 (x0 x1 : List Int) (h0 : Limbs x0) (h1 : Limbs x1) (i m : Nat) (R : List Int) (hi : i < x0.length) (hl : x0.length + x1.length ≤ 70368744177664) : ∀ (q j : Nat) (pre os : List Int) (c : Int), x1.length - j = q → j ≤ x1.length → pre.length = i + j → os.length = q → Limbs os → 0 ≤ c → c < 4294967296 →
    Ev (fun k => trammelref01_Mul.l0 k x0 x1 (pre ++ mulRow (x0.getD i 0) c (x1.drop j) os ++ List.replicate m 0) ((i + 1 : Nat) : Int)) R →
    Ev (fun k => trammelref01_Mul.l1 k x0 x1 (pre ++ os ++ List.replicate (m + 1) 0) (i : Int) c (j : Int)) R := by
  intro q
  induction q with
  | zero =>
    intro j pre os c hq hj hp ho hL hc0 hc1 hR
    obtain rfl : os = [] := List.eq_nil_of_length_eq_zero ho
    have hjl : j = x1.length := by omega
    subst hjl
    have e1 : pre ++ mulRow (x0.getD i 0) c (x1.drop x1.length) [] ++ List.replicate m 0 = pre ++ [c] ++ List.replicate m 0 := by
      rw [List.drop_length]
      rfl
    rw [e1] at hR
    have hc : c % 4294967296 = c := by omega
    have f6 : ((i + x1.length : Nat) : Int) < ((pre ++ [] ++ List.replicate (m + 1) 0).length : Int) := by simp; omega
    refine Ev.step (f := fun k => trammelref01_Mul.l0 k x0 x1 (pre ++ [c] ++ List.replicate m 0) ((i + 1 : Nat) : Int)) (fun k => ?_) hR
    simp only [trammelref01_Mul.l1]
    rw [if_neg (by omega), w64 ((i : Int) + (x1.length : Int)) (by omega) (by omega), show (i : Int) + (x1.length : Int) = ((i + x1.length : Nat) : Int) from (Int.natCast_add i x1.length).symm, if_pos (by omega), if_pos f6, Int.toNat_natCast, hc, w64 ((i : Int) + 1) (by omega) (by omega), List.append_nil, List.replicate_succ, set_mid pre _ _ _ _ hp]
    rfl
  | succ q ih =>
    intro j pre os c hq hj hp ho hL hc0 hc1 hR
    match os, ho with
    | o :: os, ho =>
      have hx := h0.rd i
      have hy := h1.rd j
      have ho2 := hL.head
      have hb := mul_bound hx hy
      obtain ⟨p, hpq⟩ : ∃ p, x0.getD i 0 * x1.getD j 0 = p := ⟨_, rfl⟩
      rw [hpq] at hb
      have HP := Aside0.mk hpq
      clear hpq
      rw [drop_rd (show j < x1.length by omega)] at hR
      have f1 : (j : Int) < (x1.length : Int) := by omega
      have f2 : (0 : Int) ≤ (i : Int) := by omega
      have f3 : (i : Int) < (x0.length : Int) := by omega
      have f4 : (0 : Int) ≤ (j : Int) := by omega
      have f5 : (0 : Int) ≤ ((i + j : Nat) : Int) := by omega
      have f6 : ((i + j : Nat) : Int) < ((pre ++ o :: os ++ List.replicate (m + 1) 0).length : Int) := by simp; omega
      refine Ev.step (f := fun k => trammelref01_Mul.l1 k x0 x1 ((pre ++ [(c + p + o) % 4294967296]) ++ os ++ List.replicate (m + 1) 0) (i : Int) ((c + p + o) / 4294967296) ((j + 1 : Nat) : Int)) (fun k => ?_)
        (ih (j + 1) _ os _ (by omega) (by omega) (by simp; omega) (by simpa using ho) hL.tail (by omega) (by omega) ?_)
      · simp only [trammelref01_Mul.l1]
        rw [if_pos f1, w64 ((i : Int) + (j : Int)) (by omega) (by omega), show (i : Int) + (j : Int) = ((i + j : Nat) : Int) from (Int.natCast_add i j).symm, if_pos f5, if_pos f6, if_pos f2, if_pos f3, if_pos f4]
        simp only [rd_nat, Int.toNat_natCast]
        have e2 : pre ++ o :: os ++ List.replicate (m + 1) 0 = pre ++ (o :: (os ++ List.replicate (m + 1) 0)) := by simp
        rw [e2, rd_mid pre _ _ _ hp, u64w (x0.getD i 0) (by omega) (by omega), u64w (x1.getD j 0) (by omega) (by omega), u64w o (by omega) (by omega)]
        rw [HP.out, u64w p (by omega) (by omega), u64w (c + o) (by omega) (by omega), u64w (c + o + p) (by omega) (by omega), show c + o + p = c + p + o by omega, Int.tmod_eq_emod_of_nonneg (by omega), Int.tdiv_eq_ediv_of_nonneg (by omega), u64w ((c + p + o) / 4294967296) (by omega) (by omega), Int.emod_emod_of_dvd _ (Int.dvd_refl _), set_mid pre _ _ _ _ hp, w64 ((j : Int) + 1) (by omega) (by omega), List.append_assoc (pre ++ _) os]
        rfl
      · have e3 : pre ++ mulRow (x0.getD i 0) c (x1.getD j 0 :: x1.drop (j + 1)) (o :: os) ++ List.replicate m 0 = (pre ++ [(c + p + o) % 4294967296]) ++ mulRow (x0.getD i 0) ((c + p + o) / 4294967296) (x1.drop (j + 1)) os ++ List.replicate m 0 := by
          rw [mulRow, HP.out]
          simp
        rw [e3] at hR
        exact hR
theorem rmul_l0 (x0 x1 : List Int) (h0 : Limbs x0) (h1 : Limbs x1) (hl : x0.length + x1.length ≤ 35184372088832) : ∀ (q i : Nat) (d s : List Int), x0.length - i = q → i ≤ x0.length → d.length = i → s.length = x1.length → Limbs s →
    Ev (fun k => trammelref01_Mul.l0 k x0 x1 (d ++ s ++ List.replicate q 0) (i : Int)) (strip (d ++ mulAll x1 (x0.drop i) s)) := by
  intro q
  induction q with
  | zero =>
    intro i d s hq hi hd hs hL
    rw [List.drop_eq_nil_of_le (by omega), mulAll]
    refine Ev.step (f := fun k => (trammelref01_Norm.f k (d ++ s)).bind fun t => some t) (fun k => ?_) (Ev.bind (f := fun _ t => some t) (rnorm_ev (d ++ s) (by simp; omega)) (Ev.now _))
    simp only [trammelref01_Mul.l0]
    rw [if_neg (by omega), List.replicate_zero, List.append_nil]
  | succ q ih =>
    intro i d s hq hi hd hs hL
    have hx := h0.rd i
    obtain ⟨hv, hR⟩ := mulRow_val (x0.getD i 0) hx x1 s 0 hs.symm h1 hL (by decide) (by decide)
    have hlen := mulRow_length (x0.getD i 0) x1 s 0 hs.symm
    rw [drop_rd (show i < x0.length by omega)]
    simp only [mulAll]
    refine Ev.step (f := fun k => trammelref01_Mul.l1 k x0 x1 (d ++ s ++ List.replicate (q + 1) 0) (i : Int) 0 0) (fun k => ?_) ?_
    · simp only [trammelref01_Mul.l0]
      rw [if_pos (by omega)]
    · refine rmul_l1 x0 x1 h0 h1 i q _ (by omega) (by omega) x1.length 0 d s 0 (by omega) (by omega) (by omega) hs hL (by decide) (by decide) ?_
      rw [List.drop_zero]
      match hr : mulRow (x0.getD i 0) 0 x1 s, hR, hlen with
      | r :: rt, hR, hlen =>
        have h := ih (i + 1) (d ++ [r]) rt (by omega) (by omega) (by simp; omega) (by simpa using hlen) hR.tail
        simp only [List.headD_cons, List.tail_cons]
        have e1 : d ++ [r] ++ rt ++ List.replicate q 0 = d ++ r :: rt ++ List.replicate q 0 := by simp
        have e2 : d ++ [r] ++ mulAll x1 (x0.drop (i + 1)) rt = d ++ r :: mulAll x1 (x0.drop (i + 1)) rt := by simp
        rw [e1, e2] at h
        exact h
      | [], _, hlen => simp at hlen
theorem rmul_ev (a b : List Int) (ha : Limbs a) (hb : Limbs b) (hl : a.length + b.length ≤ 35184372088832) : Ev (fun k => trammelref01_Mul.f k a b) (toL (val a * val b)) := by
  have h := rmul_l0 a b ha hb hl a.length 0 [] (List.replicate b.length 0) (by omega) (by omega) rfl (by simp) (fun x hx => by rw [List.eq_of_mem_replicate hx]; decide)
  obtain ⟨hv, hL⟩ := mulAll_val b hb a (List.replicate b.length 0) (by simp) ha (fun x hx => by rw [List.eq_of_mem_replicate hx]; decide)
  rw [List.drop_zero, List.nil_append, List.nil_append, strip_eq hL, hv, val_zeros, Nat.add_zero, List.replicate_append_replicate] at h
  refine Ev.congr (fun k => ?_) h
  unfold trammelref01_Mul.f
  rw [w64 ((a.length : Int) + (b.length : Int)) (by omega) (by omega), show (a.length : Int) + (b.length : Int) = ((b.length + a.length : Nat) : Int) by omega, Int.toNat_natCast, if_pos (by omega), if_pos (by omega)]
  rfl
/-- The document's product. -/
theorem r2mul_ev (n m : Bool) (a b : List Int) (ha : Limbs a) (hb : Limbs b) (hl : a.length + b.length ≤ 35184372088832) : Ev (fun k => trammelref02_Mul.f k n a m b) (rep (ival n a * ival m b)) := by
  rw [← ival_mul]
  have h := mul_len ha hb
  exact Ev.bind (rmul_ev a b ha hb hl) (Ev.bind (f := fun _ bt => some (bt.1, bt.2)) (rmade_rep (n != m) _ (limbs_toL _) (by omega)) (Ev.now _))

end Go.Proofs.Ytgnonaokinfaeaa.PSums
