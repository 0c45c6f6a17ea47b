/- Plain lemmas on the printed functions of ZintForms: what each comes to. -/
import Derived.Test.YtgnonaokinfaeaaFormsA7
import Derived.Test.YtgnonaokinfaeaaFormsB1
import Derived.Test.YtgnonaokinfaeaaSteps
namespace Go.Proofs.Ytgnonaokinfaeaa.PForms
open Go.RowKit Go.Proofs.YtgnonaokinfaeaaW.PrintWords Go.Proofs.YtgnonaokinfaeaaW.PrintMore Go.Proofs.Ytgnonaokinfaeaa.Num
set_option linter.unusedVariables false

theorem ncmp_l0 (a b : List Int) (ha : Limbs a) (hb : Limbs b) (hl : a.length = b.length) (hn : a.length ≤ 4611686018427387904) : ∀ m : Nat, m ≤ a.length →
    Ev (fun k => nat_Cmp.l0 k a b ((m : Int) - 1)) (cmpN (val (a.take m)) (val (b.take m))) := by
  intro m
  induction m with
  | zero =>
    intro _
    refine Ev.step (f := fun _ => some (cmpN (val (a.take 0)) (val (b.take 0)))) (fun k => ?_) (Ev.now _)
    simp only [nat_Cmp.l0]
    rw [if_neg (by omega)]
    simp [val, cmpN]
  | succ m ih =>
    intro hm
    have he : ((m + 1 : Nat) : Int) - 1 = (m : Int) := by omega
    have hx := ha.rd m
    have hy := hb.rd m
    have hL : (a.take m).length = (b.take m).length := by simp; omega
    rw [he, take_rd (show m < a.length by omega), take_rd (show m < b.length by omega)]
    by_cases hc : a.getD m 0 = b.getD m 0
    · rw [hc, cmpN_snoc_same hL]
      refine Ev.step (f := fun k => nat_Cmp.l0 k a b ((m : Int) - 1)) (fun k => ?_) (ih (by omega))
      simp only [nat_Cmp.l0]
      rw [if_pos (by omega), if_pos (by omega), if_pos (by omega), if_pos (by omega), rd_nat, rd_nat, if_pos hc, w64 _ (by omega) (by omega)]
    · by_cases hd : a.getD m 0 < b.getD m 0
      · rw [cmpN_lt (val_snoc_lt hL (ha.take m) hx.1 hd)]
        refine Ev.step (f := fun _ => some (-1)) (fun k => ?_) (Ev.now _)
        simp only [nat_Cmp.l0]
        rw [if_pos (by omega), if_pos (by omega), if_pos (by omega), if_pos (by omega), rd_nat, rd_nat, if_neg hc, if_pos hd]
      · rw [cmpN_gt (val_snoc_lt hL.symm (hb.take m) hy.1 (by omega))]
        refine Ev.step (f := fun _ => some 1) (fun k => ?_) (Ev.now _)
        simp only [nat_Cmp.l0]
        rw [if_pos (by omega), if_pos (by omega), if_pos (by omega), if_pos (by omega), rd_nat, rd_nat, if_neg hc, if_neg hd]
/-- nat.Cmp: below, the same, above. -/
theorem ncmp_ev (a b : List Int) (ha : Limbs a) (hb : Limbs b) (la : a.length ≤ 4611686018427387904) (lb : b.length ≤ 4611686018427387904) : Ev (fun k => nat_Cmp.f k a b) (cmpN (val a) (val b)) := by
  have h1 := trim_toL a ha la
  have h2 := trim_toL b hb lb
  have l1 := toL_le_of_limbs ha
  have l2 := toL_le_of_limbs hb
  refine Ev.bind h1 (Ev.bind h2 ?_)
  by_cases hc : ((toL (val a)).length : Int) = ((toL (val b)).length : Int)
  · have h := ncmp_l0 (toL (val a)) (toL (val b)) (limbs_toL _) (limbs_toL _) (by omega) (by omega) (toL (val a)).length (Nat.le_refl _)
    rw [List.take_length, show (toL (val b)).take (toL (val a)).length = toL (val b) from List.take_of_length_le (by omega), val_toL, val_toL] at h
    refine Ev.congr (fun k => ?_) h
    simp only [if_pos hc]
    rw [w64 _ (by omega) (by omega)]
  · by_cases hd : ((toL (val a)).length : Int) < ((toL (val b)).length : Int)
    · rw [cmpN_lt (toL_len_lt (by omega))]
      refine Ev.congr (f := fun _ => some (-1)) (fun k => ?_) (Ev.now _)
      simp only [if_neg hc, if_pos hd]
    · rw [cmpN_gt (toL_len_lt (by omega))]
      refine Ev.congr (f := fun _ => some 1) (fun k => ?_) (Ev.now _)
      simp only [if_neg hc, if_neg hd]

theorem rnorm_l1 (l : List Int) (n : Nat) (hn : n ≤ l.length) (hl : n ≤ 35184372088832) : ∀ (j i : Nat), n - i = j → i ≤ n → Ev (fun k => trammelref01_Norm.l1 k l (n : Int) (l.take i) (i : Int)) (l.take n) := by
  intro j
  induction j with
  | zero =>
    intro i hj hi
    obtain rfl : i = n := by omega
    refine Ev.step (f := fun _ => some (l.take i)) (fun k => ?_) (Ev.now _)
    simp only [trammelref01_Norm.l1]
    rw [if_neg (by omega)]
  | succ j ih =>
    intro i hj hi
    refine Ev.step (f := fun k => trammelref01_Norm.l1 k l (n : Int) (l.take (i + 1)) ((i + 1 : Nat) : Int)) (fun k => ?_) (ih (i + 1) (by omega) (by omega))
    simp only [trammelref01_Norm.l1]
    rw [if_pos (by omega), if_pos (by omega), if_pos (by omega), if_pos (by simp; omega), rd_nat, ← take_rd (show i < l.length by omega), w64 _ (by omega) (by omega)]
    rfl
theorem rnorm_l0 (l : List Int) (hl : l.length ≤ 35184372088832) : ∀ m : Nat, m ≤ l.length → Ev (fun k => trammelref01_Norm.l0 k l (m : Int)) (strip (l.take m)) := by
  intro m
  induction m with
  | zero =>
    intro _
    refine Ev.step (f := fun k => trammelref01_Norm.j1 k l ((0 : Nat) : Int)) (fun k => ?_) ?_
    · simp only [trammelref01_Norm.l0]
      rw [if_neg (by omega)]
    · refine Ev.step (f := fun k => trammelref01_Norm.l1 k l ((0 : Nat) : Int) [] 0) (fun k => ?_) ?_
      · simp only [trammelref01_Norm.j1]
      · exact rnorm_l1 l 0 (by omega) (by omega) 0 0 rfl (by omega)
  | succ m ih =>
    intro hm
    have hw : wrap64 (((m + 1 : Nat) : Int) - 1) = (m : Int) := by rw [w64 _ (by omega) (by omega)]; omega
    rw [take_rd (show m < l.length by omega)]
    by_cases h0 : l.getD m 0 = 0
    · rw [h0, strip_snoc_zero]
      refine Ev.step (f := fun k => trammelref01_Norm.l0 k l (m : Int)) (fun k => ?_) (ih (by omega))
      simp only [trammelref01_Norm.l0]
      rw [if_pos (by omega), hw, if_pos (by omega), if_pos (by omega), rd_nat, if_pos h0]
    · rw [strip_snoc_ne _ h0, ← take_rd (show m < l.length by omega)]
      refine Ev.step (f := fun k => trammelref01_Norm.j1 k l ((m + 1 : Nat) : Int)) (fun k => ?_) ?_
      · simp only [trammelref01_Norm.l0]
        rw [if_pos (by omega), hw, if_pos (by omega), if_pos (by omega), rd_nat, if_neg h0]
      · refine Ev.step (f := fun k => trammelref01_Norm.l1 k l ((m + 1 : Nat) : Int) [] 0) (fun k => ?_) ?_
        · simp only [trammelref01_Norm.j1]
        · exact rnorm_l1 l (m + 1) (by omega) (by omega) (m + 1) 0 (by omega) (by omega)
theorem rnorm_ev (l : List Int) (hl : l.length ≤ 35184372088832) : Ev (fun k => trammelref01_Norm.f k l) (strip l) := by
  have := rnorm_l0 l hl l.length (Nat.le_refl _)
  rw [List.take_length] at this
  exact this

/-- The document's made. -/
theorem rmade_rep (a : Bool) (l : List Int) (hL : Limbs l) (hl : l.length ≤ 35184372088832) : Ev (fun k => trammelref02_made.f k a l) (rep (ival a l)) := by
  rw [rep_of a l hL]
  refine Ev.bind (rnorm_ev l hl) ?_
  cases a with
  | true =>
    refine Ev.congr (f := fun _ => some (true && decide (0 < (strip l).length), strip l)) (fun k => ?_) (Ev.now _)
    simp only [if_true, Bool.true_and]
    congr 2
    exact decide_eq_decide.2 (by omega)
  | false => exact Ev.congr (f := fun _ => some (false && decide (0 < (strip l).length), strip l)) (fun k => rfl) (Ev.now _)

theorem rmost (m n : Nat) : trammelref01_most.f (m : Int) (n : Int) = some ((max m n : Nat) : Int) := by
  unfold trammelref01_most.f
  split
  · congr 1
    omega
  · congr 1
    omega
theorem rlimb {l : List Int} (hL : Limbs l) (i : Nat) : trammelref01_limb.f l (i : Int) = some (l.getD i 0) := by
  have h := hL.rd i
  unfold trammelref01_limb.f
  split
  · rw [if_pos (by omega), rd_nat, u64w _ (by omega) (by omega)]
  · rw [getD_out (by omega)]

theorem radd_l0 (x0 x1 : List Int) (h0 : Limbs x0) (h1 : Limbs x1) (hl : max x0.length x1.length < 35184372088832) : ∀ (j i : Nat) (d : List Int) (c : Int), max x0.length x1.length - i = j → i ≤ max x0.length x1.length → d.length = i → 0 ≤ c → c ≤ 1 →
    Ev (fun k => trammelref01_Add.l0 k x0 x1 d c (i : Int)) (strip (d ++ addE c (pad j (x0.drop i)) (pad j (x1.drop i)))) := by
  intro j
  induction j with
  | zero =>
    intro i d c hj hi hd hc0 hc1
    have hc : c % 4294967296 = c := by omega
    refine Ev.step (f := fun k => (trammelref01_Norm.f k (d ++ [c])).bind fun t => some t) (fun k => ?_) ?_
    · simp only [trammelref01_Add.l0]
      rw [rmost, Option.bind_some, if_neg (by omega), if_pos (by omega), hc]
    · exact Ev.bind (f := fun _ t => some t) (rnorm_ev (d ++ [c]) (by simp; omega)) (Ev.now _)
  | succ j ih =>
    intro i d c hj hi hd hc0 hc1
    have hx := h0.rd i
    have hy := h1.rd i
    rw [pad_drop, pad_drop]
    have hstep : d ++ addE c (x0.getD i 0 :: pad j (x0.drop (i + 1))) (x1.getD i 0 :: pad j (x1.drop (i + 1))) = (d ++ [(c + x0.getD i 0 + x1.getD i 0) % 4294967296]) ++ addE ((c + x0.getD i 0 + x1.getD i 0) / 4294967296) (pad j (x0.drop (i + 1))) (pad j (x1.drop (i + 1))) := by
      simp [addE]
    rw [hstep]
    refine Ev.step (f := fun k => trammelref01_Add.l0 k x0 x1 (d ++ [(c + x0.getD i 0 + x1.getD i 0) % 4294967296]) ((c + x0.getD i 0 + x1.getD i 0) / 4294967296) ((i + 1 : Nat) : Int)) (fun k => ?_)
      (ih (i + 1) _ _ (by omega) (by omega) (by simp; omega) (by omega) (by omega))
    simp only [trammelref01_Add.l0]
    have hw : wrap64 ((i : Int) + 1) = ((i + 1 : Nat) : Int) := by rw [w64 _ (by omega) (by omega)]; omega
    rw [rmost, Option.bind_some, if_pos (by omega), rlimb h0, Option.bind_some, rlimb h1, Option.bind_some, if_pos (by omega), hw, u64w (c + x0.getD i 0) (by omega) (by omega), u64w (c + x0.getD i 0 + x1.getD i 0) (by omega) (by omega),
      Int.tmod_eq_emod_of_nonneg (by omega), Int.tdiv_eq_ediv_of_nonneg (by omega), u64w _ (by omega) (by omega), Int.emod_emod_of_dvd _ (Int.dvd_refl _)]
/-- The document's sum of magnitudes. -/
theorem radd_ev (x0 x1 : List Int) (h0 : Limbs x0) (h1 : Limbs x1) (hl : max x0.length x1.length < 35184372088832) : Ev (fun k => trammelref01_Add.f k x0 x1) (toL (val x0 + val x1)) := by
  have h := radd_l0 x0 x1 h0 h1 hl (max x0.length x1.length) 0 [] 0 (by omega) (by omega) rfl (by decide) (by decide)
  simp only [List.nil_append, List.drop_zero] at h
  obtain ⟨hv, hL⟩ := addE_val (pad (max x0.length x1.length) x0) (pad (max x0.length x1.length) x1) 0 (by rw [pad_length, pad_length]) (pad_limbs _ h0) (pad_limbs _ h1) (by decide) (by decide)
  rw [strip_eq hL, hv, val_pad _ _ (Nat.le_max_left _ _), val_pad _ _ (Nat.le_max_right _ _)] at h
  have e : (0 : Int).toNat + val x0 + val x1 = val x0 + val x1 := by simp
  rw [e] at h
  exact h

theorem rcmp_l0 (a b : List Int) (ha : Limbs a) (hb : Limbs b) : ∀ m : Nat, m ≤ 4611686018427387904 → Ev (fun k => trammelref01_Cmp.l0 k a b ((m : Int) - 1)) (cmpN (val (pad m a)) (val (pad m b))) := by
  intro m
  induction m with
  | zero =>
    intro _
    refine Ev.step (f := fun _ => some (cmpN (val (pad 0 a)) (val (pad 0 b)))) (fun k => ?_) (Ev.now _)
    simp only [trammelref01_Cmp.l0]
    rw [if_neg (by omega)]
    simp [val, cmpN, pad]
  | succ m ih =>
    intro hm
    have he : ((m + 1 : Nat) : Int) - 1 = (m : Int) := by omega
    have hx := ha.rd m
    have hy := hb.rd m
    have hL : (pad m a).length = (pad m b).length := by rw [pad_length, pad_length]
    rw [he, pad_snoc, pad_snoc]
    by_cases hc : a.getD m 0 < b.getD m 0
    · rw [cmpN_lt (val_snoc_lt hL (pad_limbs m ha) hx.1 hc)]
      refine Ev.step (f := fun _ => some (-1)) (fun k => ?_) (Ev.now _)
      simp only [trammelref01_Cmp.l0]
      rw [if_pos (by omega), rlimb ha, Option.bind_some, rlimb hb, Option.bind_some, if_pos hc]
    · by_cases hd : a.getD m 0 > b.getD m 0
      · rw [cmpN_gt (val_snoc_lt hL.symm (pad_limbs m hb) hy.1 hd)]
        refine Ev.step (f := fun _ => some 1) (fun k => ?_) (Ev.now _)
        simp only [trammelref01_Cmp.l0]
        rw [if_pos (by omega), rlimb ha, Option.bind_some, rlimb hb, Option.bind_some, if_neg hc, if_pos hd]
      · have hq : a.getD m 0 = b.getD m 0 := by omega
        rw [hq, cmpN_snoc_same hL]
        refine Ev.step (f := fun k => trammelref01_Cmp.l0 k a b ((m : Int) - 1)) (fun k => ?_) (ih (by omega))
        simp only [trammelref01_Cmp.l0]
        rw [if_pos (by omega), rlimb ha, Option.bind_some, rlimb hb, Option.bind_some, if_neg hc, if_neg hd, w64 _ (by omega) (by omega)]
theorem rcmp_ev (a b : List Int) (ha : Limbs a) (hb : Limbs b) (hl : max a.length b.length ≤ 4611686018427387904) : Ev (fun k => trammelref01_Cmp.f k a b) (cmpN (val a) (val b)) := by
  have h := rcmp_l0 a b ha hb (max a.length b.length) hl
  rw [val_pad _ _ (Nat.le_max_left _ _), val_pad _ _ (Nat.le_max_right _ _)] at h
  refine Ev.congr (fun k => ?_) h
  unfold trammelref01_Cmp.f
  rw [rmost, Option.bind_some, w64 _ (by omega) (by omega)]

theorem rless_l0 (x0 x1 : List Int) (h0 : Limbs x0) (h1 : Limbs x1) (hl : x0.length ≤ 35184372088832) : ∀ (j i : Nat) (d : List Int) (c : Int), x0.length - i = j → i ≤ x0.length → d.length = i → 0 ≤ c → c ≤ 1 →
    Ev (fun k => trammelref01_less.l0 k x0 x1 d c (i : Int)) (strip (d ++ subE c (x0.drop i) (pad j (x1.drop i)))) := by
  intro j
  induction j with
  | zero =>
    intro i d c hj hi hd hc0 hc1
    have hfin : d ++ subE c (x0.drop i) (pad 0 (x1.drop i)) = d := by
      rw [List.drop_eq_nil_of_le (by omega)]
      simp [subE]
    rw [hfin]
    refine Ev.step (f := fun k => (trammelref01_Norm.f k d).bind fun t => some t) (fun k => ?_) ?_
    · simp only [trammelref01_less.l0]
      rw [if_neg (by omega)]
    · exact Ev.bind (f := fun _ t => some t) (rnorm_ev d (by omega)) (Ev.now _)
  | succ j ih =>
    intro i d c hj hi hd hc0 hc1
    have hx := h0.rd i
    have hy := h1.rd i
    rw [drop_rd (show i < x0.length by omega), pad_drop]
    have hstep : d ++ subE c (x0.getD i 0 :: x0.drop (i + 1)) (x1.getD i 0 :: pad j (x1.drop (i + 1))) = (d ++ [(x0.getD i 0 - c - x1.getD i 0) % 4294967296]) ++ subE (if x0.getD i 0 - c - x1.getD i 0 < 0 then 1 else 0) (x0.drop (i + 1)) (pad j (x1.drop (i + 1))) := by
      simp [subE]
    rw [hstep]
    refine Ev.step (f := fun k => trammelref01_less.l0 k x0 x1 (d ++ [(x0.getD i 0 - c - x1.getD i 0) % 4294967296]) (if x0.getD i 0 - c - x1.getD i 0 < 0 then 1 else 0) ((i + 1 : Nat) : Int)) (fun k => ?_)
      (ih (i + 1) _ _ (by omega) (by omega) (by simp; omega) (by split <;> omega) (by split <;> omega))
    simp only [trammelref01_less.l0]
    have hw : wrap64 ((i : Int) + 1) = ((i + 1 : Nat) : Int) := by rw [w64 _ (by omega) (by omega)]; omega
    rw [if_pos (by omega), rlimb h0, Option.bind_some, rlimb h1, Option.bind_some, hw, u64w (x1.getD i 0 + c) (by omega) (by omega)]
    by_cases hc : x0.getD i 0 < x1.getD i 0 + c
    · rw [if_pos hc, if_pos (by omega), if_pos (by omega), u64w (x0.getD i 0 + 4294967296) (by omega) (by omega), u64w _ (by omega) (by omega)]
      congr 3
      omega
    · rw [if_neg hc, if_pos (by omega), if_neg (by omega), u64w _ (by omega) (by omega)]
      congr 3
      omega
/-- The document's difference of magnitudes, of which the second is not greater. -/
theorem rless_ev (x0 x1 : List Int) (h0 : Limbs x0) (h1 : Limbs x1) (hl : x0.length ≤ 35184372088832) (hv : val x1 ≤ val x0) : Ev (fun k => trammelref01_less.f k x0 x1) (toL (val x0 - val x1)) := by
  have h := rless_l0 x0 x1 h0 h1 hl x0.length 0 [] 0 (by omega) (by omega) rfl (by decide) (by decide)
  simp only [List.nil_append, List.drop_zero] at h
  have hp := val_pad_lt x0.length h1 (Nat.lt_of_le_of_lt hv (val_lt h0))
  obtain ⟨hs, hL⟩ := subE_val x0 (pad x0.length x1) 0 (by rw [pad_length]) h0 (pad_limbs _ h1) (by decide) (by decide) (by rw [hp]; simpa using hv)
  have e : val (subE 0 x0 (pad x0.length x1)) = val x0 - val x1 := by
    rw [hp] at hs
    simp at hs
    omega
  rw [strip_eq hL, e] at h
  exact h

theorem rsub_ev (a b : List Int) (ha : Limbs a) (hb : Limbs b) (hl : max a.length b.length ≤ 35184372088832) : Ev (fun k => trammelref01_Sub.f k a b) (if val a < val b then ([], 10) else (toL (val a - val b), 0)) := by
  refine Ev.bind (rcmp_ev a b ha hb (by omega)) ?_
  by_cases hc : val a < val b
  · rw [if_pos hc]
    refine Ev.congr (f := fun _ => some (([] : List Int), (10 : Int))) (fun k => ?_) (Ev.now _)
    simp only [if_pos (cmpN_neg.2 hc)]
  · rw [if_neg hc]
    refine Ev.congr (f := fun k => (trammelref01_less.f k a b).bind fun r => some (r, (0 : Int))) (fun k => ?_) ?_
    · simp only [if_neg (fun h => hc (cmpN_neg.1 h))]
    · exact Ev.bind (f := fun _ r => some (r, (0 : Int))) (rless_ev a b ha hb (by omega) (by omega)) (Ev.now _)

/-- The document's sum. -/
theorem r2add_ev (n m : Bool) (a b : List Int) (ha : Limbs a) (hb : Limbs b) (hl : max a.length b.length < 35184372088832) : Ev (fun k => trammelref02_Add.f k n a m b) (rep (ival n a + ival m b)) := by
  have len := add_len ha hb
  by_cases hs : (n == m) = true
  · have he : n = m := by simpa using hs
    subst he
    rw [← ival_same]
    refine Ev.congr (f := fun k => (trammelref01_Add.f k a b).bind fun t => (trammelref02_made.f k n t).bind fun bt => some (bt.1, bt.2)) (fun k => ?_) ?_
    · unfold trammelref02_Add.f
      rw [if_pos hs]
    · exact Ev.bind (radd_ev a b ha hb hl) (Ev.bind (f := fun _ bt => some (bt.1, bt.2)) (rmade_rep n _ (limbs_toL _) (by omega)) (Ev.now _))
  · have hsub : ∀ (x y : List Int) (o : Bool), Limbs x → Limbs y → max x.length y.length < 35184372088832 → val y ≤ val x →
        Ev (fun k => (trammelref01_Sub.f k x y).bind fun bt => (trammelref02_made.f k o bt.1).bind fun b2 => some (b2.1, b2.2)) (rep (ival o (toL (val x - val y)))) := by
      intro x y o hx hy lx hv
      have h1 := rsub_ev x y hx hy (by omega)
      rw [if_neg (by omega)] at h1
      have h2 := toL_mono (show val x - val y ≤ val x by omega)
      have h3 := toL_le_of_limbs hx
      exact Ev.bind h1 (Ev.bind (f := fun _ bt => some (bt.1, bt.2)) (rmade_rep o _ (limbs_toL _) (by omega)) (Ev.now _))
    have hne : m = !n := by
      cases n <;> cases m <;> simp at hs ⊢
    have hcong : ∀ k, trammelref02_Add.f k n a m b = ((trammelref01_Cmp.f k a b).bind fun t => if t ≥ 0 then ((trammelref01_Sub.f k a b).bind fun bt => (trammelref02_made.f k n bt.1).bind fun b2 => some (b2.1, b2.2)) else ((trammelref01_Sub.f k b a).bind fun bt => (trammelref02_made.f k m bt.1).bind fun b2 => some (b2.1, b2.2))) := by
      intro k
      unfold trammelref02_Add.f
      rw [if_neg hs]
    refine Ev.congr hcong ?_
    refine Ev.bind (rcmp_ev a b ha hb (by omega)) ?_
    by_cases hc : val a < val b
    · have h := hsub b a m hb ha (by omega) (by omega)
      have e : ival m (toL (val b - val a)) = ival n a + ival m b := by
        rw [hne]
        unfold ival
        rw [val_toL]
        cases n <;> simp <;> omega
      rw [e] at h
      have hq := cmpN_neg.2 hc
      simp only [if_neg (show ¬ cmpN (val a) (val b) ≥ 0 by omega)]
      exact h
    · have h := hsub a b n ha hb (by omega) (by omega)
      have e : ival n (toL (val a - val b)) = ival n a + ival m b := by
        rw [hne]
        unfold ival
        rw [val_toL]
        cases n <;> simp <;> omega
      rw [e] at h
      have hq : ¬ cmpN (val a) (val b) < 0 := fun h => hc (cmpN_neg.1 h)
      simp only [if_pos (show cmpN (val a) (val b) ≥ 0 by omega)]
      exact h

/-- The document's Of. -/
theorem rof_ev (a : Int) (h0 : -9223372036854775808 ≤ a) (h1 : a ≤ 9223372036854775807) : Ev (fun k => trammelref02_Of.f k a) (rep a) := by
  by_cases hc : a < 0
  · have e : IntKind.u64.wrap (-IntKind.u64.wrap a) = -a := by
      rw [IntKind.wrap_u64, IntKind.wrap_u64]
      omega
    obtain ⟨hL, hv⟩ := two_limbs (-a) (by omega) (by omega) true
    have h := rmade_rep true _ hL (by simp)
    rw [hv] at h
    have e2 : (if true = true then -(-a) else -a) = a := by simp
    rw [e2] at h
    refine Ev.congr (f := fun k => (trammelref02_made.f k true [-a % 4294967296, -a / 4294967296 % 4294967296]).bind fun bt => some (bt.1, bt.2)) (fun k => ?_) (Ev.bind (f := fun _ bt => some (bt.1, bt.2)) h (Ev.now _))
    unfold trammelref02_Of.f
    rw [if_pos hc, e, decide_eq_true hc]
  · have e : IntKind.u64.wrap a = a := u64w a (by omega) (by omega)
    obtain ⟨hL, hv⟩ := two_limbs a (by omega) (by omega) false
    have h := rmade_rep false _ hL (by simp)
    rw [hv] at h
    refine Ev.congr (f := fun k => (trammelref02_made.f k false [a % 4294967296, a / 4294967296 % 4294967296]).bind fun bt => some (bt.1, bt.2)) (fun k => ?_) (Ev.bind (f := fun _ bt => some (bt.1, bt.2)) h (Ev.now _))
    unfold trammelref02_Of.f
    rw [if_neg hc, e, decide_eq_false hc]

end Go.Proofs.Ytgnonaokinfaeaa.PForms
