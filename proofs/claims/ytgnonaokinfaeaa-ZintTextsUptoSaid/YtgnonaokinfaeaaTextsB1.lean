/- Plain lemmas on the printed functions of ZintTexts: what each comes to. -/
import Derived.Test.YtgnonaokinfaeaaTextsA7
import Derived.Test.YtgnonaokinfaeaaMul
import Derived.Test.YtgnonaokinfaeaaSteps
namespace Go.Proofs.Ytgnonaokinfaeaa.PTexts
open Go.RowKit Go.Proofs.YtgnonaokinfaeaaW.PrintWords Go.Proofs.YtgnonaokinfaeaaW.PrintMore Go.Proofs.Ytgnonaokinfaeaa.Num
set_option linter.unusedVariables false

theorem own_ev (a : Bool) (l : List Int) (h : l.length * 4 ≤ 140737488351232) : trammellaw02_own.f a l = some (a, l) := by
  unfold trammellaw02_own.f
  rw [if_pos (by omega)]

theorem eq_l0 (n m : Bool) (l : List Int) (hl : l.length ≤ 4611686018427387904) : ∀ (d i : Nat), l.length - i = d → i ≤ l.length → Ev (fun k => trammellaw02_eq.l0 k (i : Int) n l m l) true := by
  intro d
  induction d with
  | zero =>
    intro i hd hi
    refine Ev.step (f := fun _ => some true) (fun k => ?_) (Ev.now _)
    simp only [trammellaw02_eq.l0]
    rw [if_neg (by omega)]
  | succ d ih =>
    intro i hd hi
    refine Ev.step (f := fun k => trammellaw02_eq.l0 k ((i + 1 : Nat) : Int) n l m l) (fun k => ?_) (ih (i + 1) (by omega) (by omega))
    simp only [trammellaw02_eq.l0]
    rw [if_pos (by omega), if_pos (by omega), if_pos (by omega), if_true, w64 _ (by omega) (by omega)]
    rfl
theorem eq_ev (n : Bool) (l : List Int) (hl : l.length ≤ 4611686018427387904) : Ev (fun k => trammellaw02_eq.f k n l n l) true := by
  have h0 : (n != n) = false := by simp
  have h1 : ((l.length : Int) != (l.length : Int)) = false := by simp
  refine Ev.congr (f := fun k => trammellaw02_eq.j0 k false n l n l) (fun k => ?_) ?_
  · unfold trammellaw02_eq.f
    rw [h0, h1]
    rfl
  · refine Ev.step (f := fun k => trammellaw02_eq.l0 k 0 n l n l) (fun k => ?_) (eq_l0 n n l hl l.length 0 (by omega) (by omega))
    simp only [trammellaw02_eq.j0]
    rfl

theorem made_l0 (a : Bool) (l : List Int) (hl : l.length ≤ 70368744177664) : ∀ m : Nat, m ≤ l.length → Ev (fun k => zint_made.l0 k a l (m : Int)) (a && decide (0 < (strip (l.take m)).length), strip (l.take m)) := by
  intro m
  induction m with
  | zero =>
    intro _
    refine Ev.step (f := fun _ => some (a && decide (0 < (strip (l.take 0)).length), strip (l.take 0))) (fun k => ?_) (Ev.now _)
    simp only [zint_made.l0]
    rw [if_neg (by omega), if_pos (show ((0 : Nat) : Int) = 0 from rfl)]
    simp [strip]
  | succ m ih =>
    intro hm
    have hw : wrap64 (((m + 1 : Nat) : Int) - 1) = (m : Int) := by rw [w64 _ (by omega) (by omega)]; omega
    rw [take_rd (show m < l.length by omega)]
    by_cases h0 : l.getD m 0 = 0
    · rw [h0, strip_snoc_zero]
      refine Ev.step (f := fun k => zint_made.l0 k a l (m : Int)) (fun k => ?_) (ih (by omega))
      simp only [zint_made.l0]
      rw [if_pos (by omega), hw, if_pos (by omega), if_pos (by omega), rd_nat, if_pos h0]
    · rw [strip_snoc_ne _ h0]
      refine Ev.step (f := fun _ => some (a, l.take (m + 1))) (fun k => ?_) ?_
      · simp only [zint_made.l0]
        rw [if_pos (by omega), hw, if_pos (by omega), if_pos (by omega), rd_nat, if_neg h0, if_neg (by omega), if_pos (by omega), if_pos (by omega), Int.toNat_natCast]
      · rw [← take_rd (show m < l.length by omega)]
        have : decide (0 < (l.take (m + 1)).length) = true := by simp; omega
        rw [this, Bool.and_true]
        exact Ev.now _
theorem made_ev (a : Bool) (l : List Int) (hl : l.length ≤ 70368744177664) : Ev (fun k => zint_made.f k a l) (a && decide (0 < (strip l).length), strip l) := by
  have := made_l0 a l hl l.length (Nat.le_refl _)
  rw [List.take_length] at this
  exact this
/-- zint.made: a number in its one form. -/
theorem made_rep (a : Bool) (l : List Int) (hL : Limbs l) (hl : l.length ≤ 70368744177664) : Ev (fun k => zint_made.f k a l) (rep (ival a l)) := by
  rw [rep_of a l hL]
  exact made_ev a l hl

theorem trim_ev : ∀ (n : Nat) (l : List Int), l.length = n → n ≤ 4611686018427387904 → Ev (fun k => nat_trim.f k l) (strip l) := by
  intro n
  induction n with
  | zero =>
    intro l hl _
    obtain rfl : l = [] := List.eq_nil_of_length_eq_zero hl
    refine Ev.step (g := fun k => nat_trim.l0 k []) (f := fun _ => some []) (fun k => ?_) (Ev.now _)
    simp [nat_trim.l0]
  | succ n ih =>
    intro l hl hn
    have hw : wrap64 ((l.length : Int) - 1) = (n : Int) := by rw [w64 _ (by omega) (by omega)]; omega
    have hs : l = l.take n ++ [l.getD n 0] := by
      have h1 := take_rd (l := l) (i := n) (by omega)
      rw [List.take_of_length_le (by omega)] at h1
      exact h1
    by_cases h0 : l.getD n 0 = 0
    · have h2 : strip l = strip (l.take n) := by
        rw [h0] at hs
        have h3 := congrArg strip hs
        rwa [strip_snoc_zero] at h3
      rw [h2]
      refine Ev.step (g := fun k => nat_trim.l0 k l) (f := fun k => nat_trim.l0 k (l.take n)) (fun k => ?_) (ih (l.take n) (by simp; omega) (by omega))
      simp only [nat_trim.l0]
      rw [if_pos (by omega), hw, if_pos (by omega), if_pos (by omega), rd_nat, if_pos h0, if_pos (by omega), Int.toNat_natCast]
    · have h2 : strip l = l := by
        rw [hs, strip_snoc_ne _ h0]
      rw [h2]
      refine Ev.step (g := fun k => nat_trim.l0 k l) (f := fun _ => some l) (fun k => ?_) (Ev.now _)
      simp only [nat_trim.l0]
      rw [if_pos (by omega), hw, if_pos (by omega), if_pos (by omega), rd_nat, if_neg h0]
theorem trim_toL (l : List Int) (hL : Limbs l) (hl : l.length ≤ 4611686018427387904) : Ev (fun k => nat_trim.f k l) (toL (val l)) := by
  rw [← strip_eq hL]
  exact trim_ev _ l rfl hl

theorem nadd_l0 (x0 x1 : List Int) (h0 : Limbs x0) (h1 : Limbs x1) (hl : x0.length ≤ 70368744177663) : ∀ (j i : Nat) (d : List Int) (c : Int), x0.length - i = j → i ≤ x0.length → d.length = i → 0 ≤ c → c ≤ 1 →
    Ev (fun k => nat_Add.l0 k x0 x1 (d ++ List.replicate (j + 1) 0) c (x0.length : Int) (i : Int)) (strip (d ++ addE c (x0.drop i) (pad j (x1.drop i)))) := by
  intro j
  induction j with
  | zero =>
    intro i d c hj hi hd hc0 hc1
    have hie : i = x0.length := by omega
    have hfin : d ++ addE c (x0.drop i) (pad 0 (x1.drop i)) = d ++ [c] := by
      rw [List.drop_eq_nil_of_le (by omega)]
      rfl
    rw [hfin]
    have hc : c % 4294967296 = c := by omega
    refine Ev.step (f := fun k => (nat_trim.f k (d ++ [c])).bind fun t => some t) (fun k => ?_) ?_
    · simp only [nat_Add.l0]
      rw [if_neg (by omega), if_pos (by omega), if_pos (by simp; omega), Int.toNat_natCast, ← hie, ← hd, set_zero1, hc]
    · exact Ev.bind (f := fun _ t => some t) (trim_ev _ _ rfl (by simp; omega)) (Ev.now _)
  | succ j ih =>
    intro i d c hj hi hd hc0 hc1
    have hx := h0.rd i
    have hy := h1.rd i
    rw [drop_rd (show i < x0.length by omega), pad_drop]
    have hstep : d ++ addE c (x0.getD i 0 :: x0.drop (i + 1)) (x1.getD i 0 :: pad j (x1.drop (i + 1))) = (d ++ [(c + x0.getD i 0 + x1.getD i 0) % 4294967296]) ++ addE ((c + x0.getD i 0 + x1.getD i 0) / 4294967296) (x0.drop (i + 1)) (pad j (x1.drop (i + 1))) := by
      simp [addE]
    rw [hstep]
    refine Ev.step (f := fun k => nat_Add.l0 k x0 x1 ((d ++ [(c + x0.getD i 0 + x1.getD i 0) % 4294967296]) ++ List.replicate (j + 1) 0) ((c + x0.getD i 0 + x1.getD i 0) / 4294967296) (x0.length : Int) ((i + 1 : Nat) : Int)) (fun k => ?_)
      (ih (i + 1) _ _ (by omega) (by omega) (by simp; omega) (by omega) (by omega))
    simp only [nat_Add.l0]
    rw [if_pos (by omega), if_pos (by omega), if_pos (by omega)]
    have hw : wrap64 ((i : Int) + 1) = ((i + 1 : Nat) : Int) := by rw [w64 _ (by omega) (by omega)]; omega
    have hlen : (i : Int) < ((d ++ List.replicate (j + 1 + 1) 0).length : Int) := by simp; omega
    simp only [rd_nat, hw, Int.toNat_natCast]
    rw [u64w (x0.getD i 0) (by omega) (by omega), u64w (c + x0.getD i 0) (by omega) (by omega)]
    by_cases hb : (i : Int) < (x1.length : Int)
    · rw [if_pos hb, if_pos hlen, u64w (x1.getD i 0) (by omega) (by omega), u64w (c + x0.getD i 0 + x1.getD i 0) (by omega) (by omega), ← hd, set_zeros]
    · rw [if_neg hb, if_pos hlen]
      have hz : x1.getD i 0 = 0 := getD_out (by omega)
      rw [hz, Int.add_zero, ← hd, set_zeros]
theorem nadd_long (x0 x1 : List Int) (h0 : Limbs x0) (h1 : Limbs x1) (hl : x0.length ≤ 70368744177663) (hle : x1.length ≤ x0.length) :
    Ev (fun k => nat_Add.l0 k x0 x1 (List.replicate (x0.length + 1) 0) 0 (x0.length : Int) 0) (toL (val x0 + val x1)) := by
  have h := nadd_l0 x0 x1 h0 h1 hl x0.length 0 [] 0 (by omega) (by omega) rfl (by decide) (by decide)
  simp only [List.nil_append, List.drop_zero] at h
  obtain ⟨hv, hL⟩ := addE_val x0 (pad x0.length x1) 0 (by rw [pad_length]) h0 (pad_limbs _ h1) (by decide) (by decide)
  rw [strip_eq hL, hv, val_pad _ _ hle] at h
  have e : (0 : Int).toNat + val x0 + val x1 = val x0 + val x1 := by simp
  rw [e] at h
  exact h
/-- nat.Add: the sum. -/
theorem nadd_ev (x0 x1 : List Int) (h0 : Limbs x0) (h1 : Limbs x1) (l0 : x0.length ≤ 70368744177663) (l1 : x1.length ≤ 70368744177663) : Ev (fun k => nat_Add.f k x0 x1) (toL (val x0 + val x1)) := by
  by_cases hc : (x0.length : Int) < (x1.length : Int)
  · refine Ev.congr (f := fun k => nat_Add.l0 k x1 x0 (List.replicate (x1.length + 1) 0) 0 (x1.length : Int) 0) (fun k => ?_) ?_
    · unfold nat_Add.f
      have hw : wrap64 ((x1.length : Int) + 1) = ((x1.length + 1 : Nat) : Int) := by rw [w64 _ (by omega) (by omega)]; omega
      rw [if_pos hc, hw, Int.toNat_natCast, if_pos (by omega), if_pos (by omega)]
    · rw [Nat.add_comm (val x0)]
      exact nadd_long x1 x0 h1 h0 l1 (by omega)
  · refine Ev.congr (f := fun k => nat_Add.l0 k x0 x1 (List.replicate (x0.length + 1) 0) 0 (x0.length : Int) 0) (fun k => ?_) (nadd_long x0 x1 h0 h1 l0 (by omega))
    unfold nat_Add.f
    have hw : wrap64 ((x0.length : Int) + 1) = ((x0.length + 1 : Nat) : Int) := by rw [w64 _ (by omega) (by omega)]; omega
    rw [if_neg hc, hw, Int.toNat_natCast, if_pos (by omega), if_pos (by omega)]

theorem rnorm_l1 (l : List Int) (n : Nat) (hn : n ≤ l.length) (hl : n ≤ 35184372088832) : ∀ (j i : Nat), n - i = j → i ≤ n → Ev (fun k => trammelref01_Norm.l1 k l (n : Int) (l.take i) (i : Int)) (l.take n) := by
  intro j
  induction j with
  | zero =>
    intro i hj hi
    obtain rfl : i = n := by omega
    refine Ev.step (f := fun _ => some (l.take i)) (fun k => ?_) (Ev.now _)
    simp only [trammelref01_Norm.l1]
    rw [if_neg (by omega)]
  | succ j ih =>
    intro i hj hi
    refine Ev.step (f := fun k => trammelref01_Norm.l1 k l (n : Int) (l.take (i + 1)) ((i + 1 : Nat) : Int)) (fun k => ?_) (ih (i + 1) (by omega) (by omega))
    simp only [trammelref01_Norm.l1]
    rw [if_pos (by omega), if_pos (by omega), if_pos (by omega), if_pos (by simp; omega), rd_nat, ← take_rd (show i < l.length by omega), w64 _ (by omega) (by omega)]
    rfl
theorem rnorm_l0 (l : List Int) (hl : l.length ≤ 35184372088832) : ∀ m : Nat, m ≤ l.length → Ev (fun k => trammelref01_Norm.l0 k l (m : Int)) (strip (l.take m)) := by
  intro m
  induction m with
  | zero =>
    intro _
    refine Ev.step (f := fun k => trammelref01_Norm.j1 k l ((0 : Nat) : Int)) (fun k => ?_) ?_
    · simp only [trammelref01_Norm.l0]
      rw [if_neg (by omega)]
    · refine Ev.step (f := fun k => trammelref01_Norm.l1 k l ((0 : Nat) : Int) [] 0) (fun k => ?_) ?_
      · simp only [trammelref01_Norm.j1]
      · exact rnorm_l1 l 0 (by omega) (by omega) 0 0 rfl (by omega)
  | succ m ih =>
    intro hm
    have hw : wrap64 (((m + 1 : Nat) : Int) - 1) = (m : Int) := by rw [w64 _ (by omega) (by omega)]; omega
    rw [take_rd (show m < l.length by omega)]
    by_cases h0 : l.getD m 0 = 0
    · rw [h0, strip_snoc_zero]
      refine Ev.step (f := fun k => trammelref01_Norm.l0 k l (m : Int)) (fun k => ?_) (ih (by omega))
      simp only [trammelref01_Norm.l0]
      rw [if_pos (by omega), hw, if_pos (by omega), if_pos (by omega), rd_nat, if_pos h0]
    · rw [strip_snoc_ne _ h0, ← take_rd (show m < l.length by omega)]
      refine Ev.step (f := fun k => trammelref01_Norm.j1 k l ((m + 1 : Nat) : Int)) (fun k => ?_) ?_
      · simp only [trammelref01_Norm.l0]
        rw [if_pos (by omega), hw, if_pos (by omega), if_pos (by omega), rd_nat, if_neg h0]
      · refine Ev.step (f := fun k => trammelref01_Norm.l1 k l ((m + 1 : Nat) : Int) [] 0) (fun k => ?_) ?_
        · simp only [trammelref01_Norm.j1]
        · exact rnorm_l1 l (m + 1) (by omega) (by omega) (m + 1) 0 (by omega) (by omega)
theorem rnorm_ev (l : List Int) (hl : l.length ≤ 35184372088832) : Ev (fun k => trammelref01_Norm.f k l) (strip l) := by
  have := rnorm_l0 l hl l.length (Nat.le_refl _)
  rw [List.take_length] at this
  exact this

/-- The document's made. -/
theorem rmade_rep (a : Bool) (l : List Int) (hL : Limbs l) (hl : l.length ≤ 35184372088832) : Ev (fun k => trammelref02_made.f k a l) (rep (ival a l)) := by
  rw [rep_of a l hL]
  refine Ev.bind (rnorm_ev l hl) ?_
  cases a with
  | true =>
    refine Ev.congr (f := fun _ => some (true && decide (0 < (strip l).length), strip l)) (fun k => ?_) (Ev.now _)
    simp only [if_true, Bool.true_and]
    congr 2
    exact decide_eq_decide.2 (by omega)
  | false => exact Ev.congr (f := fun _ => some (false && decide (0 < (strip l).length), strip l)) (fun k => rfl) (Ev.now _)

theorem rmost (m n : Nat) : trammelref01_most.f (m : Int) (n : Int) = some ((max m n : Nat) : Int) := by
  unfold trammelref01_most.f
  split
  · congr 1
    omega
  · congr 1
    omega
theorem rlimb {l : List Int} (hL : Limbs l) (i : Nat) : trammelref01_limb.f l (i : Int) = some (l.getD i 0) := by
  have h := hL.rd i
  unfold trammelref01_limb.f
  split
  · rw [if_pos (by omega), rd_nat, u64w _ (by omega) (by omega)]
  · rw [getD_out (by omega)]

theorem radd_l0 (x0 x1 : List Int) (h0 : Limbs x0) (h1 : Limbs x1) (hl : max x0.length x1.length < 35184372088832) : ∀ (j i : Nat) (d : List Int) (c : Int), max x0.length x1.length - i = j → i ≤ max x0.length x1.length → d.length = i → 0 ≤ c → c ≤ 1 →
    Ev (fun k => trammelref01_Add.l0 k x0 x1 d c (i : Int)) (strip (d ++ addE c (pad j (x0.drop i)) (pad j (x1.drop i)))) := by
  intro j
  induction j with
  | zero =>
    intro i d c hj hi hd hc0 hc1
    have hc : c % 4294967296 = c := by omega
    refine Ev.step (f := fun k => (trammelref01_Norm.f k (d ++ [c])).bind fun t => some t) (fun k => ?_) ?_
    · simp only [trammelref01_Add.l0]
      rw [rmost, Option.bind_some, if_neg (by omega), if_pos (by omega), hc]
    · exact Ev.bind (f := fun _ t => some t) (rnorm_ev (d ++ [c]) (by simp; omega)) (Ev.now _)
  | succ j ih =>
    intro i d c hj hi hd hc0 hc1
    have hx := h0.rd i
    have hy := h1.rd i
    rw [pad_drop, pad_drop]
    have hstep : d ++ addE c (x0.getD i 0 :: pad j (x0.drop (i + 1))) (x1.getD i 0 :: pad j (x1.drop (i + 1))) = (d ++ [(c + x0.getD i 0 + x1.getD i 0) % 4294967296]) ++ addE ((c + x0.getD i 0 + x1.getD i 0) / 4294967296) (pad j (x0.drop (i + 1))) (pad j (x1.drop (i + 1))) := by
      simp [addE]
    rw [hstep]
    refine Ev.step (f := fun k => trammelref01_Add.l0 k x0 x1 (d ++ [(c + x0.getD i 0 + x1.getD i 0) % 4294967296]) ((c + x0.getD i 0 + x1.getD i 0) / 4294967296) ((i + 1 : Nat) : Int)) (fun k => ?_)
      (ih (i + 1) _ _ (by omega) (by omega) (by simp; omega) (by omega) (by omega))
    simp only [trammelref01_Add.l0]
    have hw : wrap64 ((i : Int) + 1) = ((i + 1 : Nat) : Int) := by rw [w64 _ (by omega) (by omega)]; omega
    rw [rmost, Option.bind_some, if_pos (by omega), rlimb h0, Option.bind_some, rlimb h1, Option.bind_some, if_pos (by omega), hw, u64w (c + x0.getD i 0) (by omega) (by omega), u64w (c + x0.getD i 0 + x1.getD i 0) (by omega) (by omega),
      Int.tmod_eq_emod_of_nonneg (by omega), Int.tdiv_eq_ediv_of_nonneg (by omega), u64w _ (by omega) (by omega), Int.emod_emod_of_dvd _ (Int.dvd_refl _)]
/-- The document's sum of magnitudes. -/
theorem radd_ev (x0 x1 : List Int) (h0 : Limbs x0) (h1 : Limbs x1) (hl : max x0.length x1.length < 35184372088832) : Ev (fun k => trammelref01_Add.f k x0 x1) (toL (val x0 + val x1)) := by
  have h := radd_l0 x0 x1 h0 h1 hl (max x0.length x1.length) 0 [] 0 (by omega) (by omega) rfl (by decide) (by decide)
  simp only [List.nil_append, List.drop_zero] at h
  obtain ⟨hv, hL⟩ := addE_val (pad (max x0.length x1.length) x0) (pad (max x0.length x1.length) x1) 0 (by rw [pad_length, pad_length]) (pad_limbs _ h0) (pad_limbs _ h1) (by decide) (by decide)
  rw [strip_eq hL, hv, val_pad _ _ (Nat.le_max_left _ _), val_pad _ _ (Nat.le_max_right _ _)] at h
  have e : (0 : Int).toNat + val x0 + val x1 = val x0 + val x1 := by simp
  rw [e] at h
  exact h

theorem bits_ev (l : List Int) (hL : Limbs l) (hl : l.length ≤ 70368744177664) : ∃ b : Int, Ev (fun k => nat_Bits.f k l) b ∧ (b = 0 ↔ val l = 0) := by
  have ht := trim_toL l hL (by omega)
  have hlen := toL_le_of_limbs hL
  rcases Nat.eq_zero_or_pos (val l) with hv | hv
  · rw [hv, toL_zero] at ht
    refine ⟨0, Ev.bind ht (Ev.congr (f := fun _ => some 0) (fun k => ?_) (Ev.now _)), by simp [hv]⟩
    simp
  · have hp : 0 < (toL (val l)).length := by
      rw [List.length_pos_iff, Ne, toL_nil]
      omega
    have hd := (limbs_toL (val l)).rd ((toL (val l)).length - 1)
    have hne : (toL (val l)).getD ((toL (val l)).length - 1) 0 ≠ 0 := by
      intro h0
      have h1 := take_rd (l := toL (val l)) (i := (toL (val l)).length - 1) (by omega)
      rw [show (toL (val l)).length - 1 + 1 = (toL (val l)).length by omega, List.take_length, h0] at h1
      have h2 := congrArg strip h1
      rw [strip_snoc_zero, strip_toL] at h2
      have h3 := congrArg List.length h2
      have h4 := strip_le ((toL (val l)).take ((toL (val l)).length - 1))
      simp at h4
      omega
    generalize hx : (toL (val l)).getD ((toL (val l)).length - 1) 0 = x at hd hne
    have hb := Go.Proofs.Any.bitLen_le32 x hd.1 (by omega)
    have hb0 : 0 < Lib.bitLen x.toNat := by
      unfold Lib.bitLen Lib.bitLenAux
      rw [if_neg (by omega)]
      omega
    have hw : wrap64 (((toL (val l)).length : Int) - 1) = (((toL (val l)).length - 1 : Nat) : Int) := by rw [w64 _ (by omega) (by omega)]; omega
    refine ⟨32 * (((toL (val l)).length : Int) - 1) + (Lib.bitLen x.toNat : Int), Ev.bind ht (Ev.congr (f := fun _ => some (32 * (((toL (val l)).length : Int) - 1) + (Lib.bitLen x.toNat : Int))) (fun k => ?_) (Ev.now _)), by omega⟩
    simp only [hw, rd_nat, hx]
    rw [if_neg (by omega), if_pos (by omega), if_pos (by omega)]
    unfold bits_Len32.f
    rw [if_pos (by omega), Option.bind_some, w64 (32 * (((toL (val l)).length - 1 : Nat) : Int)) (by omega) (by omega), w64 _ (by omega) (by omega)]
    congr 2
    omega
theorem zsign_ev (n : Bool) (l : List Int) (hL : Limbs l) (hl : l.length ≤ 70368744177664) : Ev (fun k => zint_Sign.f k n l) (sgn (ival n l)) := by
  obtain ⟨b, hb, h0⟩ := bits_ev l hL hl
  rw [sgn_ival]
  refine Ev.bind hb ?_
  by_cases hv : val l = 0
  · rw [if_pos hv]
    refine Ev.congr (f := fun _ => some 0) (fun k => ?_) (Ev.now _)
    simp only [if_pos (h0.2 hv)]
  · rw [if_neg hv]
    refine Ev.congr (f := fun _ => some (if n = true then -1 else 1)) (fun k => ?_) (Ev.now _)
    simp only [if_neg (fun h => hv (h0.1 h))]
    split <;> rfl

theorem nnorm_ev (l : List Int) (hl : l.length < 35184372088832) : Ev (fun k => nat_Norm.f k l) (strip l) := by
  have h := strip_le l
  refine Ev.bind (trim_ev _ l rfl (by omega)) (Ev.congr (f := fun _ => some (strip l)) (fun k => ?_) (Ev.now _))
  simp only [List.nil_append]
  rw [if_pos (by simp; omega)]
theorem or_sum (x y : Int) (hx : 0 ≤ x ∧ x < 4294967296) (hy : 0 ≤ y ∧ y < 4294967296) : Go.bits .or .u64 x (y * 4294967296) = x + 4294967296 * y := by
  obtain ⟨a, rfl⟩ := Int.eq_ofNat_of_zero_le hx.1
  obtain ⟨b, rfl⟩ := Int.eq_ofNat_of_zero_le hy.1
  rw [show ((b : Int) * 4294967296) = ((b * 4294967296 : Nat) : Int) by omega, Go.u64_or_nat _ _ (by omega) (by omega)]
  have h := Nat.two_pow_add_eq_or_of_lt (b := a) (i := 32) (by omega) b
  rw [Nat.or_comm, Nat.mul_comm b, show (4294967296 : Nat) = 2 ^ 32 from rfl, ← h]
  omega

/-- The document's Sign. -/
theorem rsign_ev (n : Bool) (l : List Int) (hL : Limbs l) (hl : l.length ≤ 35184372088832) : Ev (fun k => trammelref02_Sign.f k n l) (sgn (ival n l)) := by
  rw [sgn_ival]
  have h0 := val_zero_of_strip hL
  refine Ev.bind (rnorm_ev l hl) ?_
  by_cases hv : val l = 0
  · rw [if_pos hv]
    refine Ev.congr (f := fun _ => some 0) (fun k => ?_) (Ev.now _)
    rw [h0.2 hv]
    rfl
  · rw [if_neg hv]
    have hne : ¬ ((strip l).length : Int) = 0 := by
      intro h
      exact hv (h0.1 (List.eq_nil_of_length_eq_zero (by omega)))
    refine Ev.congr (f := fun _ => some (if n = true then -1 else 1)) (fun k => ?_) (Ev.now _)
    simp only [if_neg hne]
    split <;> rfl

theorem set_mid (pre os : List Int) (o v : Int) (i : Nat) (h : pre.length = i) : (pre ++ (o :: os)).set i v = (pre ++ [v]) ++ os := by
  subst h
  simp
theorem rd_mid (pre os : List Int) (o : Int) (i : Nat) (h : pre.length = i) : (pre ++ (o :: os)).getD i 0 = o := by
  subst h
  simp

set_option maxHeartbeats 800000 in
theorem nmul_l1 (x0 x1 : List Int) (h0 : Limbs x0) (h1 : Limbs x1) (i m : Nat) (R : List Int) (hi : i < x0.length) (hl : x0.length + x1.length ≤ 70368744177664) : ∀ (q j : Nat) (pre os : List Int) (c : Int), x1.length - j = q → j ≤ x1.length → pre.length = i + j → os.length = q → Limbs os → 0 ≤ c → c < 4294967296 →
    Ev (fun k => nat_Mul.l0 k x0 x1 (pre ++ mulRow (x0.getD i 0) c (x1.drop j) os ++ List.replicate m 0) (x0.length : Int) ((i + 1 : Nat) : Int)) R →
    Ev (fun k => nat_Mul.l1 k x0 x1 (pre ++ os ++ List.replicate (m + 1) 0) (i : Int) c (x0.length : Int) (i : Int) (x1.length : Int) (j : Int)) R := by
  intro q
  induction q with
  | zero =>
    intro j pre os c hq hj hp ho hL hc0 hc1 hR
    obtain rfl : os = [] := List.eq_nil_of_length_eq_zero ho
    have hjl : j = x1.length := by omega
    subst hjl
    have e1 : pre ++ mulRow (x0.getD i 0) c (x1.drop x1.length) [] ++ List.replicate m 0 = pre ++ [c] ++ List.replicate m 0 := by
      rw [List.drop_length]
      rfl
    rw [e1] at hR
    have hc : c % 4294967296 = c := by omega
    have hw : wrap64 ((i : Int) + (x1.length : Int)) = ((i + x1.length : Nat) : Int) := by rw [w64 _ (by omega) (by omega)]; omega
    refine Ev.step (f := fun k => nat_Mul.l0 k x0 x1 (pre ++ [c] ++ List.replicate m 0) (x0.length : Int) ((i + 1 : Nat) : Int)) (fun k => ?_) hR
    simp only [nat_Mul.l1]
    rw [if_neg (by omega), hw, if_pos (by omega), if_pos (by simp; omega), Int.toNat_natCast, hc, w64 ((i : Int) + 1) (by omega) (by omega), List.append_nil, List.replicate_succ, set_mid pre _ _ _ _ hp]
    rfl
  | succ q ih =>
    intro j pre os c hq hj hp ho hL hc0 hc1 hR
    match os, ho with
    | o :: os, ho =>
      have hx := h0.rd i
      have hy := h1.rd j
      have ho2 := hL.head
      have hb := mul_bound hx hy
      obtain ⟨p, hpq⟩ : ∃ p, x0.getD i 0 * x1.getD j 0 = p := ⟨_, rfl⟩
      rw [hpq] at hb
      have HP := Aside0.mk hpq
      clear hpq
      rw [drop_rd (show j < x1.length by omega)] at hR
      have f1 : (j : Int) < (x1.length : Int) := by omega
      have f2 : (0 : Int) ≤ (i : Int) := by omega
      have f3 : (i : Int) < (x0.length : Int) := by omega
      have f4 : (0 : Int) ≤ (j : Int) := by omega
      have f5 : (0 : Int) ≤ ((i + j : Nat) : Int) := by omega
      have f6 : ((i + j : Nat) : Int) < ((pre ++ o :: os ++ List.replicate (m + 1) 0).length : Int) := by simp; omega
      refine Ev.step (f := fun k => nat_Mul.l1 k x0 x1 ((pre ++ [(c + p + o) % 4294967296]) ++ os ++ List.replicate (m + 1) 0) (i : Int) ((c + p + o) / 4294967296) (x0.length : Int) (i : Int) (x1.length : Int) ((j + 1 : Nat) : Int)) (fun k => ?_)
        (ih (j + 1) _ os _ (by omega) (by omega) (by simp; omega) (by simpa using ho) hL.tail (by omega) (by omega) ?_)
      · simp only [nat_Mul.l1]
        rw [if_pos f1, if_pos f2, if_pos f3, if_pos f4, if_pos f1, w64 ((i : Int) + (j : Int)) (by omega) (by omega), show (i : Int) + (j : Int) = ((i + j : Nat) : Int) from (Int.natCast_add i j).symm, if_pos f5, if_pos f6]
        simp only [rd_nat, Int.toNat_natCast]
        have e2 : pre ++ o :: os ++ List.replicate (m + 1) 0 = pre ++ (o :: (os ++ List.replicate (m + 1) 0)) := by simp
        rw [e2, rd_mid pre _ _ _ hp, u64w (x0.getD i 0) (by omega) (by omega), u64w (x1.getD j 0) (by omega) (by omega), u64w o (by omega) (by omega)]
        rw [HP.out, u64w p (by omega) (by omega), u64w (p + o) (by omega) (by omega), u64w (c + (p + o)) (by omega) (by omega), set_mid pre _ _ _ _ hp, w64 ((j : Int) + 1) (by omega) (by omega), ← Int.add_assoc, List.append_assoc (pre ++ _) os]
        rfl
      · have e3 : pre ++ mulRow (x0.getD i 0) c (x1.getD j 0 :: x1.drop (j + 1)) (o :: os) ++ List.replicate m 0 = (pre ++ [(c + p + o) % 4294967296]) ++ mulRow (x0.getD i 0) ((c + p + o) / 4294967296) (x1.drop (j + 1)) os ++ List.replicate m 0 := by
          rw [mulRow, HP.out]
          simp
        rw [e3] at hR
        exact hR
theorem nmul_l0 (x0 x1 : List Int) (h0 : Limbs x0) (h1 : Limbs x1) (hl : x0.length + x1.length ≤ 70368744177664) : ∀ (q i : Nat) (d s : List Int), x0.length - i = q → i ≤ x0.length → d.length = i → s.length = x1.length → Limbs s →
    Ev (fun k => nat_Mul.l0 k x0 x1 (d ++ s ++ List.replicate q 0) (x0.length : Int) (i : Int)) (strip (d ++ mulAll x1 (x0.drop i) s)) := by
  intro q
  induction q with
  | zero =>
    intro i d s hq hi hd hs hL
    rw [List.drop_eq_nil_of_le (by omega), mulAll]
    refine Ev.step (f := fun k => (nat_trim.f k (d ++ s)).bind fun t => some t) (fun k => ?_) (Ev.bind (f := fun _ t => some t) (trim_ev _ (d ++ s) rfl (by simp; omega)) (Ev.now _))
    simp only [nat_Mul.l0]
    rw [if_neg (by omega), List.replicate_zero, List.append_nil]
  | succ q ih =>
    intro i d s hq hi hd hs hL
    have hx := h0.rd i
    obtain ⟨hv, hR⟩ := mulRow_val (x0.getD i 0) hx x1 s 0 hs.symm h1 hL (by decide) (by decide)
    have hlen := mulRow_length (x0.getD i 0) x1 s 0 hs.symm
    rw [drop_rd (show i < x0.length by omega)]
    simp only [mulAll]
    refine Ev.step (f := fun k => nat_Mul.l1 k x0 x1 (d ++ s ++ List.replicate (q + 1) 0) (i : Int) 0 (x0.length : Int) (i : Int) (x1.length : Int) 0) (fun k => ?_) ?_
    · simp only [nat_Mul.l0]
      rw [if_pos (by omega)]
    · refine nmul_l1 x0 x1 h0 h1 i q _ (by omega) hl x1.length 0 d s 0 (by omega) (by omega) (by omega) hs hL (by decide) (by decide) ?_
      rw [List.drop_zero]
      match hr : mulRow (x0.getD i 0) 0 x1 s, hR, hlen with
      | r :: rt, hR, hlen =>
        have h := ih (i + 1) (d ++ [r]) rt (by omega) (by omega) (by simp; omega) (by simpa using hlen) hR.tail
        simp only [List.headD_cons, List.tail_cons]
        have e1 : d ++ [r] ++ rt ++ List.replicate q 0 = d ++ r :: rt ++ List.replicate q 0 := by simp
        have e2 : d ++ [r] ++ mulAll x1 (x0.drop (i + 1)) rt = d ++ r :: mulAll x1 (x0.drop (i + 1)) rt := by simp
        rw [e1, e2] at h
        exact h
      | [], _, hlen => simp at hlen
/-- nat.Mul: the product. -/
theorem nmul_ev (a b : List Int) (ha : Limbs a) (hb : Limbs b) (hl : a.length + b.length ≤ 70368744177664) : Ev (fun k => nat_Mul.f k a b) (toL (val a * val b)) := by
  have l1 := toL_le_of_limbs ha
  have l2 := toL_le_of_limbs hb
  refine Ev.bind (trim_toL a ha (by omega)) (Ev.bind (trim_toL b hb (by omega)) ?_)
  have h := nmul_l0 (toL (val a)) (toL (val b)) (limbs_toL _) (limbs_toL _) (by omega) (toL (val a)).length 0 [] (List.replicate (toL (val b)).length 0) (by omega) (by omega) rfl (by simp) (fun x hx => by rw [List.eq_of_mem_replicate hx]; decide)
  obtain ⟨hv, hL⟩ := mulAll_val (toL (val b)) (limbs_toL _) (toL (val a)) (List.replicate (toL (val b)).length 0) (by simp) (limbs_toL _) (fun x hx => by rw [List.eq_of_mem_replicate hx]; decide)
  rw [List.drop_zero, List.nil_append, List.nil_append, strip_eq hL, hv, val_toL, val_toL, val_zeros, Nat.add_zero, List.replicate_append_replicate] at h
  refine Ev.congr (fun k => ?_) h
  have hw : wrap64 (((toL (val a)).length : Int) + ((toL (val b)).length : Int)) = (((toL (val b)).length + (toL (val a)).length : Nat) : Int) := by rw [w64 _ (by omega) (by omega)]; omega
  simp only [hw, Int.toNat_natCast]
  rw [if_pos (by omega), if_pos (by omega)]
  rfl

theorem rmul_l1 (x0 x1 : List Int) (h0 : Limbs x0) (h1 : Limbs x1) (i m : Nat) (R : List Int) (hi : i < x0.length) (hl : x0.length + x1.length ≤ 70368744177664) : ∀ (q j : Nat) (pre os : List Int) (c : Int), x1.length - j = q → j ≤ x1.length → pre.length = i + j → os.length = q → Limbs os → 0 ≤ c → c < 4294967296 →
    Ev (fun k => trammelref01_Mul.l0 k x0 x1 (pre ++ mulRow (x0.getD i 0) c (x1.drop j) os ++ List.replicate m 0) ((i + 1 : Nat) : Int)) R →
    Ev (fun k => trammelref01_Mul.l1 k x0 x1 (pre ++ os ++ List.replicate (m + 1) 0) (i : Int) c (j : Int)) R := by
  intro q
  induction q with
  | zero =>
    intro j pre os c hq hj hp ho hL hc0 hc1 hR
    obtain rfl : os = [] := List.eq_nil_of_length_eq_zero ho
    have hjl : j = x1.length := by omega
    subst hjl
    have e1 : pre ++ mulRow (x0.getD i 0) c (x1.drop x1.length) [] ++ List.replicate m 0 = pre ++ [c] ++ List.replicate m 0 := by
      rw [List.drop_length]
      rfl
    rw [e1] at hR
    have hc : c % 4294967296 = c := by omega
    have f6 : ((i + x1.length : Nat) : Int) < ((pre ++ [] ++ List.replicate (m + 1) 0).length : Int) := by simp; omega
    refine Ev.step (f := fun k => trammelref01_Mul.l0 k x0 x1 (pre ++ [c] ++ List.replicate m 0) ((i + 1 : Nat) : Int)) (fun k => ?_) hR
    simp only [trammelref01_Mul.l1]
    rw [if_neg (by omega), w64 ((i : Int) + (x1.length : Int)) (by omega) (by omega), show (i : Int) + (x1.length : Int) = ((i + x1.length : Nat) : Int) from (Int.natCast_add i x1.length).symm, if_pos (by omega), if_pos f6, Int.toNat_natCast, hc, w64 ((i : Int) + 1) (by omega) (by omega), List.append_nil, List.replicate_succ, set_mid pre _ _ _ _ hp]
    rfl
  | succ q ih =>
    intro j pre os c hq hj hp ho hL hc0 hc1 hR
    match os, ho with
    | o :: os, ho =>
      have hx := h0.rd i
      have hy := h1.rd j
      have ho2 := hL.head
      have hb := mul_bound hx hy
      obtain ⟨p, hpq⟩ : ∃ p, x0.getD i 0 * x1.getD j 0 = p := ⟨_, rfl⟩
      rw [hpq] at hb
      have HP := Aside0.mk hpq
      clear hpq
      rw [drop_rd (show j < x1.length by omega)] at hR
      have f1 : (j : Int) < (x1.length : Int) := by omega
      have f2 : (0 : Int) ≤ (i : Int) := by omega
      have f3 : (i : Int) < (x0.length : Int) := by omega
      have f4 : (0 : Int) ≤ (j : Int) := by omega
      have f5 : (0 : Int) ≤ ((i + j : Nat) : Int) := by omega
      have f6 : ((i + j : Nat) : Int) < ((pre ++ o :: os ++ List.replicate (m + 1) 0).length : Int) := by simp; omega
      refine Ev.step (f := fun k => trammelref01_Mul.l1 k x0 x1 ((pre ++ [(c + p + o) % 4294967296]) ++ os ++ List.replicate (m + 1) 0) (i : Int) ((c + p + o) / 4294967296) ((j + 1 : Nat) : Int)) (fun k => ?_)
        (ih (j + 1) _ os _ (by omega) (by omega) (by simp; omega) (by simpa using ho) hL.tail (by omega) (by omega) ?_)
      · simp only [trammelref01_Mul.l1]
        rw [if_pos f1, w64 ((i : Int) + (j : Int)) (by omega) (by omega), show (i : Int) + (j : Int) = ((i + j : Nat) : Int) from (Int.natCast_add i j).symm, if_pos f5, if_pos f6, if_pos f2, if_pos f3, if_pos f4]
        simp only [rd_nat, Int.toNat_natCast]
        have e2 : pre ++ o :: os ++ List.replicate (m + 1) 0 = pre ++ (o :: (os ++ List.replicate (m + 1) 0)) := by simp
        rw [e2, rd_mid pre _ _ _ hp, u64w (x0.getD i 0) (by omega) (by omega), u64w (x1.getD j 0) (by omega) (by omega), u64w o (by omega) (by omega)]
        rw [HP.out, u64w p (by omega) (by omega), u64w (c + o) (by omega) (by omega), u64w (c + o + p) (by omega) (by omega), show c + o + p = c + p + o by omega, Int.tmod_eq_emod_of_nonneg (by omega), Int.tdiv_eq_ediv_of_nonneg (by omega), u64w ((c + p + o) / 4294967296) (by omega) (by omega), Int.emod_emod_of_dvd _ (Int.dvd_refl _), set_mid pre _ _ _ _ hp, w64 ((j : Int) + 1) (by omega) (by omega), List.append_assoc (pre ++ _) os]
        rfl
      · have e3 : pre ++ mulRow (x0.getD i 0) c (x1.getD j 0 :: x1.drop (j + 1)) (o :: os) ++ List.replicate m 0 = (pre ++ [(c + p + o) % 4294967296]) ++ mulRow (x0.getD i 0) ((c + p + o) / 4294967296) (x1.drop (j + 1)) os ++ List.replicate m 0 := by
          rw [mulRow, HP.out]
          simp
        rw [e3] at hR
        exact hR
theorem rmul_l0 (x0 x1 : List Int) (h0 : Limbs x0) (h1 : Limbs x1) (hl : x0.length + x1.length ≤ 35184372088832) : ∀ (q i : Nat) (d s : List Int), x0.length - i = q → i ≤ x0.length → d.length = i → s.length = x1.length → Limbs s →
    Ev (fun k => trammelref01_Mul.l0 k x0 x1 (d ++ s ++ List.replicate q 0) (i : Int)) (strip (d ++ mulAll x1 (x0.drop i) s)) := by
  intro q
  induction q with
  | zero =>
    intro i d s hq hi hd hs hL
    rw [List.drop_eq_nil_of_le (by omega), mulAll]
    refine Ev.step (f := fun k => (trammelref01_Norm.f k (d ++ s)).bind fun t => some t) (fun k => ?_) (Ev.bind (f := fun _ t => some t) (rnorm_ev (d ++ s) (by simp; omega)) (Ev.now _))
    simp only [trammelref01_Mul.l0]
    rw [if_neg (by omega), List.replicate_zero, List.append_nil]
  | succ q ih =>
    intro i d s hq hi hd hs hL
    have hx := h0.rd i
    obtain ⟨hv, hR⟩ := mulRow_val (x0.getD i 0) hx x1 s 0 hs.symm h1 hL (by decide) (by decide)
    have hlen := mulRow_length (x0.getD i 0) x1 s 0 hs.symm
    rw [drop_rd (show i < x0.length by omega)]
    simp only [mulAll]
    refine Ev.step (f := fun k => trammelref01_Mul.l1 k x0 x1 (d ++ s ++ List.replicate (q + 1) 0) (i : Int) 0 0) (fun k => ?_) ?_
    · simp only [trammelref01_Mul.l0]
      rw [if_pos (by omega)]
    · refine rmul_l1 x0 x1 h0 h1 i q _ (by omega) (by omega) x1.length 0 d s 0 (by omega) (by omega) (by omega) hs hL (by decide) (by decide) ?_
      rw [List.drop_zero]
      match hr : mulRow (x0.getD i 0) 0 x1 s, hR, hlen with
      | r :: rt, hR, hlen =>
        have h := ih (i + 1) (d ++ [r]) rt (by omega) (by omega) (by simp; omega) (by simpa using hlen) hR.tail
        simp only [List.headD_cons, List.tail_cons]
        have e1 : d ++ [r] ++ rt ++ List.replicate q 0 = d ++ r :: rt ++ List.replicate q 0 := by simp
        have e2 : d ++ [r] ++ mulAll x1 (x0.drop (i + 1)) rt = d ++ r :: mulAll x1 (x0.drop (i + 1)) rt := by simp
        rw [e1, e2] at h
        exact h
      | [], _, hlen => simp at hlen
theorem rmul_ev (a b : List Int) (ha : Limbs a) (hb : Limbs b) (hl : a.length + b.length ≤ 35184372088832) : Ev (fun k => trammelref01_Mul.f k a b) (toL (val a * val b)) := by
  have h := rmul_l0 a b ha hb hl a.length 0 [] (List.replicate b.length 0) (by omega) (by omega) rfl (by simp) (fun x hx => by rw [List.eq_of_mem_replicate hx]; decide)
  obtain ⟨hv, hL⟩ := mulAll_val b hb a (List.replicate b.length 0) (by simp) ha (fun x hx => by rw [List.eq_of_mem_replicate hx]; decide)
  rw [List.drop_zero, List.nil_append, List.nil_append, strip_eq hL, hv, val_zeros, Nat.add_zero, List.replicate_append_replicate] at h
  refine Ev.congr (fun k => ?_) h
  unfold trammelref01_Mul.f
  rw [w64 ((a.length : Int) + (b.length : Int)) (by omega) (by omega), show (a.length : Int) + (b.length : Int) = ((b.length + a.length : Nat) : Int) by omega, Int.toNat_natCast, if_pos (by omega), if_pos (by omega)]
  rfl

end Go.Proofs.Ytgnonaokinfaeaa.PTexts
