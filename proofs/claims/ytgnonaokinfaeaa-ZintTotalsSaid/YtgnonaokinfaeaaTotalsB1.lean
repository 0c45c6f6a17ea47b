/- Plain lemmas on the printed functions of ZintTotals: what each comes to. -/
import Derived.Test.YtgnonaokinfaeaaTotalsA3
import Derived.Test.YtgnonaokinfaeaaSteps
namespace Go.Proofs.Ytgnonaokinfaeaa.PTotals
open Go.RowKit Go.Proofs.YtgnonaokinfaeaaW.PrintWords Go.Proofs.Ytgnonaokinfaeaa.Num
set_option linter.unusedVariables false

theorem own_ev (a : Bool) (l : List Int) (h : l.length * 4 ≤ 140737488351232) : trammellaw02_own.f a l = some (a, l) := by
  unfold trammellaw02_own.f
  rw [if_pos (by omega)]

theorem eq_l0 (n m : Bool) (l : List Int) (hl : l.length ≤ 4611686018427387904) : ∀ (d i : Nat), l.length - i = d → i ≤ l.length → Ev (fun k => trammellaw02_eq.l0 k (i : Int) n l m l) true := by
  intro d
  induction d with
  | zero =>
    intro i hd hi
    refine Ev.step (f := fun _ => some true) (fun k => ?_) (Ev.now _)
    simp only [trammellaw02_eq.l0]
    rw [if_neg (by omega)]
  | succ d ih =>
    intro i hd hi
    refine Ev.step (f := fun k => trammellaw02_eq.l0 k ((i + 1 : Nat) : Int) n l m l) (fun k => ?_) (ih (i + 1) (by omega) (by omega))
    simp only [trammellaw02_eq.l0]
    rw [if_pos (by omega), if_pos (by omega), if_pos (by omega), if_true, w64 _ (by omega) (by omega)]
    rfl
theorem eq_ev (n : Bool) (l : List Int) (hl : l.length ≤ 4611686018427387904) : Ev (fun k => trammellaw02_eq.f k n l n l) true := by
  have h0 : (n != n) = false := by simp
  have h1 : ((l.length : Int) != (l.length : Int)) = false := by simp
  refine Ev.congr (f := fun k => trammellaw02_eq.j0 k false n l n l) (fun k => ?_) ?_
  · unfold trammellaw02_eq.f
    rw [h0, h1]
    rfl
  · refine Ev.step (f := fun k => trammellaw02_eq.l0 k 0 n l n l) (fun k => ?_) (eq_l0 n n l hl l.length 0 (by omega) (by omega))
    simp only [trammellaw02_eq.j0]
    rfl

theorem made_l0 (a : Bool) (l : List Int) (hl : l.length ≤ 70368744177664) : ∀ m : Nat, m ≤ l.length → Ev (fun k => zint_made.l0 k a l (m : Int)) (a && decide (0 < (strip (l.take m)).length), strip (l.take m)) := by
  intro m
  induction m with
  | zero =>
    intro _
    refine Ev.step (f := fun _ => some (a && decide (0 < (strip (l.take 0)).length), strip (l.take 0))) (fun k => ?_) (Ev.now _)
    simp only [zint_made.l0]
    rw [if_neg (by omega), if_pos (show ((0 : Nat) : Int) = 0 from rfl)]
    simp [strip]
  | succ m ih =>
    intro hm
    have hw : wrap64 (((m + 1 : Nat) : Int) - 1) = (m : Int) := by rw [w64 _ (by omega) (by omega)]; omega
    rw [take_rd (show m < l.length by omega)]
    by_cases h0 : l.getD m 0 = 0
    · rw [h0, strip_snoc_zero]
      refine Ev.step (f := fun k => zint_made.l0 k a l (m : Int)) (fun k => ?_) (ih (by omega))
      simp only [zint_made.l0]
      rw [if_pos (by omega), hw, if_pos (by omega), if_pos (by omega), rd_nat, if_pos h0]
    · rw [strip_snoc_ne _ h0]
      refine Ev.step (f := fun _ => some (a, l.take (m + 1))) (fun k => ?_) ?_
      · simp only [zint_made.l0]
        rw [if_pos (by omega), hw, if_pos (by omega), if_pos (by omega), rd_nat, if_neg h0, if_neg (by omega), if_pos (by omega), if_pos (by omega), Int.toNat_natCast]
      · rw [← take_rd (show m < l.length by omega)]
        have : decide (0 < (l.take (m + 1)).length) = true := by simp; omega
        rw [this, Bool.and_true]
        exact Ev.now _
theorem made_ev (a : Bool) (l : List Int) (hl : l.length ≤ 70368744177664) : Ev (fun k => zint_made.f k a l) (a && decide (0 < (strip l).length), strip l) := by
  have := made_l0 a l hl l.length (Nat.le_refl _)
  rw [List.take_length] at this
  exact this
/-- zint.made: a number in its one form. -/
theorem made_rep (a : Bool) (l : List Int) (hL : Limbs l) (hl : l.length ≤ 70368744177664) : Ev (fun k => zint_made.f k a l) (rep (ival a l)) := by
  rw [rep_of a l hL]
  exact made_ev a l hl

theorem trim_ev : ∀ (n : Nat) (l : List Int), l.length = n → n ≤ 4611686018427387904 → Ev (fun k => nat_trim.f k l) (strip l) := by
  intro n
  induction n with
  | zero =>
    intro l hl _
    obtain rfl : l = [] := List.eq_nil_of_length_eq_zero hl
    refine Ev.step (g := fun k => nat_trim.l0 k []) (f := fun _ => some []) (fun k => ?_) (Ev.now _)
    simp [nat_trim.l0]
  | succ n ih =>
    intro l hl hn
    have hw : wrap64 ((l.length : Int) - 1) = (n : Int) := by rw [w64 _ (by omega) (by omega)]; omega
    have hs : l = l.take n ++ [l.getD n 0] := by
      have h1 := take_rd (l := l) (i := n) (by omega)
      rw [List.take_of_length_le (by omega)] at h1
      exact h1
    by_cases h0 : l.getD n 0 = 0
    · have h2 : strip l = strip (l.take n) := by
        rw [h0] at hs
        have h3 := congrArg strip hs
        rwa [strip_snoc_zero] at h3
      rw [h2]
      refine Ev.step (g := fun k => nat_trim.l0 k l) (f := fun k => nat_trim.l0 k (l.take n)) (fun k => ?_) (ih (l.take n) (by simp; omega) (by omega))
      simp only [nat_trim.l0]
      rw [if_pos (by omega), hw, if_pos (by omega), if_pos (by omega), rd_nat, if_pos h0, if_pos (by omega), Int.toNat_natCast]
    · have h2 : strip l = l := by
        rw [hs, strip_snoc_ne _ h0]
      rw [h2]
      refine Ev.step (g := fun k => nat_trim.l0 k l) (f := fun _ => some l) (fun k => ?_) (Ev.now _)
      simp only [nat_trim.l0]
      rw [if_pos (by omega), hw, if_pos (by omega), if_pos (by omega), rd_nat, if_neg h0]
theorem trim_toL (l : List Int) (hL : Limbs l) (hl : l.length ≤ 4611686018427387904) : Ev (fun k => nat_trim.f k l) (toL (val l)) := by
  rw [← strip_eq hL]
  exact trim_ev _ l rfl hl

theorem nadd_l0 (x0 x1 : List Int) (h0 : Limbs x0) (h1 : Limbs x1) (hl : x0.length ≤ 70368744177663) : ∀ (j i : Nat) (d : List Int) (c : Int), x0.length - i = j → i ≤ x0.length → d.length = i → 0 ≤ c → c ≤ 1 →
    Ev (fun k => nat_Add.l0 k x0 x1 (d ++ List.replicate (j + 1) 0) c (x0.length : Int) (i : Int)) (strip (d ++ addE c (x0.drop i) (pad j (x1.drop i)))) := by
  intro j
  induction j with
  | zero =>
    intro i d c hj hi hd hc0 hc1
    have hie : i = x0.length := by omega
    have hfin : d ++ addE c (x0.drop i) (pad 0 (x1.drop i)) = d ++ [c] := by
      rw [List.drop_eq_nil_of_le (by omega)]
      rfl
    rw [hfin]
    have hc : c % 4294967296 = c := by omega
    refine Ev.step (f := fun k => (nat_trim.f k (d ++ [c])).bind fun t => some t) (fun k => ?_) ?_
    · simp only [nat_Add.l0]
      rw [if_neg (by omega), if_pos (by omega), if_pos (by simp; omega), Int.toNat_natCast, ← hie, ← hd, set_zero1, hc]
    · exact Ev.bind (f := fun _ t => some t) (trim_ev _ _ rfl (by simp; omega)) (Ev.now _)
  | succ j ih =>
    intro i d c hj hi hd hc0 hc1
    have hx := h0.rd i
    have hy := h1.rd i
    rw [drop_rd (show i < x0.length by omega), pad_drop]
    have hstep : d ++ addE c (x0.getD i 0 :: x0.drop (i + 1)) (x1.getD i 0 :: pad j (x1.drop (i + 1))) = (d ++ [(c + x0.getD i 0 + x1.getD i 0) % 4294967296]) ++ addE ((c + x0.getD i 0 + x1.getD i 0) / 4294967296) (x0.drop (i + 1)) (pad j (x1.drop (i + 1))) := by
      simp [addE]
    rw [hstep]
    refine Ev.step (f := fun k => nat_Add.l0 k x0 x1 ((d ++ [(c + x0.getD i 0 + x1.getD i 0) % 4294967296]) ++ List.replicate (j + 1) 0) ((c + x0.getD i 0 + x1.getD i 0) / 4294967296) (x0.length : Int) ((i + 1 : Nat) : Int)) (fun k => ?_)
      (ih (i + 1) _ _ (by omega) (by omega) (by simp; omega) (by omega) (by omega))
    simp only [nat_Add.l0]
    rw [if_pos (by omega), if_pos (by omega), if_pos (by omega)]
    have hw : wrap64 ((i : Int) + 1) = ((i + 1 : Nat) : Int) := by rw [w64 _ (by omega) (by omega)]; omega
    have hlen : (i : Int) < ((d ++ List.replicate (j + 1 + 1) 0).length : Int) := by simp; omega
    simp only [rd_nat, hw, Int.toNat_natCast]
    rw [u64w (x0.getD i 0) (by omega) (by omega), u64w (c + x0.getD i 0) (by omega) (by omega)]
    by_cases hb : (i : Int) < (x1.length : Int)
    · rw [if_pos hb, if_pos hlen, u64w (x1.getD i 0) (by omega) (by omega), u64w (c + x0.getD i 0 + x1.getD i 0) (by omega) (by omega), ← hd, set_zeros]
    · rw [if_neg hb, if_pos hlen]
      have hz : x1.getD i 0 = 0 := getD_out (by omega)
      rw [hz, Int.add_zero, ← hd, set_zeros]
theorem nadd_long (x0 x1 : List Int) (h0 : Limbs x0) (h1 : Limbs x1) (hl : x0.length ≤ 70368744177663) (hle : x1.length ≤ x0.length) :
    Ev (fun k => nat_Add.l0 k x0 x1 (List.replicate (x0.length + 1) 0) 0 (x0.length : Int) 0) (toL (val x0 + val x1)) := by
  have h := nadd_l0 x0 x1 h0 h1 hl x0.length 0 [] 0 (by omega) (by omega) rfl (by decide) (by decide)
  simp only [List.nil_append, List.drop_zero] at h
  obtain ⟨hv, hL⟩ := addE_val x0 (pad x0.length x1) 0 (by rw [pad_length]) h0 (pad_limbs _ h1) (by decide) (by decide)
  rw [strip_eq hL, hv, val_pad _ _ hle] at h
  have e : (0 : Int).toNat + val x0 + val x1 = val x0 + val x1 := by simp
  rw [e] at h
  exact h
/-- nat.Add: the sum. -/
theorem nadd_ev (x0 x1 : List Int) (h0 : Limbs x0) (h1 : Limbs x1) (l0 : x0.length ≤ 70368744177663) (l1 : x1.length ≤ 70368744177663) : Ev (fun k => nat_Add.f k x0 x1) (toL (val x0 + val x1)) := by
  by_cases hc : (x0.length : Int) < (x1.length : Int)
  · refine Ev.congr (f := fun k => nat_Add.l0 k x1 x0 (List.replicate (x1.length + 1) 0) 0 (x1.length : Int) 0) (fun k => ?_) ?_
    · unfold nat_Add.f
      have hw : wrap64 ((x1.length : Int) + 1) = ((x1.length + 1 : Nat) : Int) := by rw [w64 _ (by omega) (by omega)]; omega
      rw [if_pos hc, hw, Int.toNat_natCast, if_pos (by omega), if_pos (by omega)]
    · rw [Nat.add_comm (val x0)]
      exact nadd_long x1 x0 h1 h0 l1 (by omega)
  · refine Ev.congr (f := fun k => nat_Add.l0 k x0 x1 (List.replicate (x0.length + 1) 0) 0 (x0.length : Int) 0) (fun k => ?_) (nadd_long x0 x1 h0 h1 l0 (by omega))
    unfold nat_Add.f
    have hw : wrap64 ((x0.length : Int) + 1) = ((x0.length + 1 : Nat) : Int) := by rw [w64 _ (by omega) (by omega)]; omega
    rw [if_neg hc, hw, Int.toNat_natCast, if_pos (by omega), if_pos (by omega)]

end Go.Proofs.Ytgnonaokinfaeaa.PTotals
