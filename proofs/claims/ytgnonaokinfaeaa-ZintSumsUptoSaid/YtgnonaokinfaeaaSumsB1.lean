/- Plain lemmas on the printed functions of ZintSums: what each comes to. -/
import Derived.Test.YtgnonaokinfaeaaSumsA6
import Derived.Test.YtgnonaokinfaeaaMul
import Derived.Test.YtgnonaokinfaeaaSteps
namespace Go.Proofs.Ytgnonaokinfaeaa.PSums
open Go.RowKit Go.Proofs.YtgnonaokinfaeaaW.PrintWords Go.Proofs.YtgnonaokinfaeaaW.PrintMore Go.Proofs.Ytgnonaokinfaeaa.Num
set_option linter.unusedVariables false

theorem own_ev (a : Bool) (l : List Int) (h : l.length * 4 ≤ 140737488351232) : trammellaw02_own.f a l = some (a, l) := by
  unfold trammellaw02_own.f
  rw [if_pos (by omega)]

theorem eq_l0 (n m : Bool) (l : List Int) (hl : l.length ≤ 4611686018427387904) : ∀ (d i : Nat), l.length - i = d → i ≤ l.length → Ev (fun k => trammellaw02_eq.l0 k (i : Int) n l m l) true := by
  intro d
  induction d with
  | zero =>
    intro i hd hi
    refine Ev.step (f := fun _ => some true) (fun k => ?_) (Ev.now _)
    simp only [trammellaw02_eq.l0]
    rw [if_neg (by omega)]
  | succ d ih =>
    intro i hd hi
    refine Ev.step (f := fun k => trammellaw02_eq.l0 k ((i + 1 : Nat) : Int) n l m l) (fun k => ?_) (ih (i + 1) (by omega) (by omega))
    simp only [trammellaw02_eq.l0]
    rw [if_pos (by omega), if_pos (by omega), if_pos (by omega), if_true, w64 _ (by omega) (by omega)]
    rfl
theorem eq_ev (n : Bool) (l : List Int) (hl : l.length ≤ 4611686018427387904) : Ev (fun k => trammellaw02_eq.f k n l n l) true := by
  have h0 : (n != n) = false := by simp
  have h1 : ((l.length : Int) != (l.length : Int)) = false := by simp
  refine Ev.congr (f := fun k => trammellaw02_eq.j0 k false n l n l) (fun k => ?_) ?_
  · unfold trammellaw02_eq.f
    rw [h0, h1]
    rfl
  · refine Ev.step (f := fun k => trammellaw02_eq.l0 k 0 n l n l) (fun k => ?_) (eq_l0 n n l hl l.length 0 (by omega) (by omega))
    simp only [trammellaw02_eq.j0]
    rfl

theorem made_l0 (a : Bool) (l : List Int) (hl : l.length ≤ 70368744177664) : ∀ m : Nat, m ≤ l.length → Ev (fun k => zint_made.l0 k a l (m : Int)) (a && decide (0 < (strip (l.take m)).length), strip (l.take m)) := by
  intro m
  induction m with
  | zero =>
    intro _
    refine Ev.step (f := fun _ => some (a && decide (0 < (strip (l.take 0)).length), strip (l.take 0))) (fun k => ?_) (Ev.now _)
    simp only [zint_made.l0]
    rw [if_neg (by omega), if_pos (show ((0 : Nat) : Int) = 0 from rfl)]
    simp [strip]
  | succ m ih =>
    intro hm
    have hw : wrap64 (((m + 1 : Nat) : Int) - 1) = (m : Int) := by rw [w64 _ (by omega) (by omega)]; omega
    rw [take_rd (show m < l.length by omega)]
    by_cases h0 : l.getD m 0 = 0
    · rw [h0, strip_snoc_zero]
      refine Ev.step (f := fun k => zint_made.l0 k a l (m : Int)) (fun k => ?_) (ih (by omega))
      simp only [zint_made.l0]
      rw [if_pos (by omega), hw, if_pos (by omega), if_pos (by omega), rd_nat, if_pos h0]
    · rw [strip_snoc_ne _ h0]
      refine Ev.step (f := fun _ => some (a, l.take (m + 1))) (fun k => ?_) ?_
      · simp only [zint_made.l0]
        rw [if_pos (by omega), hw, if_pos (by omega), if_pos (by omega), rd_nat, if_neg h0, if_neg (by omega), if_pos (by omega), if_pos (by omega), Int.toNat_natCast]
      · rw [← take_rd (show m < l.length by omega)]
        have : decide (0 < (l.take (m + 1)).length) = true := by simp; omega
        rw [this, Bool.and_true]
        exact Ev.now _
theorem made_ev (a : Bool) (l : List Int) (hl : l.length ≤ 70368744177664) : Ev (fun k => zint_made.f k a l) (a && decide (0 < (strip l).length), strip l) := by
  have := made_l0 a l hl l.length (Nat.le_refl _)
  rw [List.take_length] at this
  exact this
/-- zint.made: a number in its one form. -/
theorem made_rep (a : Bool) (l : List Int) (hL : Limbs l) (hl : l.length ≤ 70368744177664) : Ev (fun k => zint_made.f k a l) (rep (ival a l)) := by
  rw [rep_of a l hL]
  exact made_ev a l hl

theorem trim_ev : ∀ (n : Nat) (l : List Int), l.length = n → n ≤ 4611686018427387904 → Ev (fun k => nat_trim.f k l) (strip l) := by
  intro n
  induction n with
  | zero =>
    intro l hl _
    obtain rfl : l = [] := List.eq_nil_of_length_eq_zero hl
    refine Ev.step (g := fun k => nat_trim.l0 k []) (f := fun _ => some []) (fun k => ?_) (Ev.now _)
    simp [nat_trim.l0]
  | succ n ih =>
    intro l hl hn
    have hw : wrap64 ((l.length : Int) - 1) = (n : Int) := by rw [w64 _ (by omega) (by omega)]; omega
    have hs : l = l.take n ++ [l.getD n 0] := by
      have h1 := take_rd (l := l) (i := n) (by omega)
      rw [List.take_of_length_le (by omega)] at h1
      exact h1
    by_cases h0 : l.getD n 0 = 0
    · have h2 : strip l = strip (l.take n) := by
        rw [h0] at hs
        have h3 := congrArg strip hs
        rwa [strip_snoc_zero] at h3
      rw [h2]
      refine Ev.step (g := fun k => nat_trim.l0 k l) (f := fun k => nat_trim.l0 k (l.take n)) (fun k => ?_) (ih (l.take n) (by simp; omega) (by omega))
      simp only [nat_trim.l0]
      rw [if_pos (by omega), hw, if_pos (by omega), if_pos (by omega), rd_nat, if_pos h0, if_pos (by omega), Int.toNat_natCast]
    · have h2 : strip l = l := by
        rw [hs, strip_snoc_ne _ h0]
      rw [h2]
      refine Ev.step (g := fun k => nat_trim.l0 k l) (f := fun _ => some l) (fun k => ?_) (Ev.now _)
      simp only [nat_trim.l0]
      rw [if_pos (by omega), hw, if_pos (by omega), if_pos (by omega), rd_nat, if_neg h0]
theorem trim_toL (l : List Int) (hL : Limbs l) (hl : l.length ≤ 4611686018427387904) : Ev (fun k => nat_trim.f k l) (toL (val l)) := by
  rw [← strip_eq hL]
  exact trim_ev _ l rfl hl

theorem nadd_l0 (x0 x1 : List Int) (h0 : Limbs x0) (h1 : Limbs x1) (hl : x0.length ≤ 70368744177663) : ∀ (j i : Nat) (d : List Int) (c : Int), x0.length - i = j → i ≤ x0.length → d.length = i → 0 ≤ c → c ≤ 1 →
    Ev (fun k => nat_Add.l0 k x0 x1 (d ++ List.replicate (j + 1) 0) c (x0.length : Int) (i : Int)) (strip (d ++ addE c (x0.drop i) (pad j (x1.drop i)))) := by
  intro j
  induction j with
  | zero =>
    intro i d c hj hi hd hc0 hc1
    have hie : i = x0.length := by omega
    have hfin : d ++ addE c (x0.drop i) (pad 0 (x1.drop i)) = d ++ [c] := by
      rw [List.drop_eq_nil_of_le (by omega)]
      rfl
    rw [hfin]
    have hc : c % 4294967296 = c := by omega
    refine Ev.step (f := fun k => (nat_trim.f k (d ++ [c])).bind fun t => some t) (fun k => ?_) ?_
    · simp only [nat_Add.l0]
      rw [if_neg (by omega), if_pos (by omega), if_pos (by simp; omega), Int.toNat_natCast, ← hie, ← hd, set_zero1, hc]
    · exact Ev.bind (f := fun _ t => some t) (trim_ev _ _ rfl (by simp; omega)) (Ev.now _)
  | succ j ih =>
    intro i d c hj hi hd hc0 hc1
    have hx := h0.rd i
    have hy := h1.rd i
    rw [drop_rd (show i < x0.length by omega), pad_drop]
    have hstep : d ++ addE c (x0.getD i 0 :: x0.drop (i + 1)) (x1.getD i 0 :: pad j (x1.drop (i + 1))) = (d ++ [(c + x0.getD i 0 + x1.getD i 0) % 4294967296]) ++ addE ((c + x0.getD i 0 + x1.getD i 0) / 4294967296) (x0.drop (i + 1)) (pad j (x1.drop (i + 1))) := by
      simp [addE]
    rw [hstep]
    refine Ev.step (f := fun k => nat_Add.l0 k x0 x1 ((d ++ [(c + x0.getD i 0 + x1.getD i 0) % 4294967296]) ++ List.replicate (j + 1) 0) ((c + x0.getD i 0 + x1.getD i 0) / 4294967296) (x0.length : Int) ((i + 1 : Nat) : Int)) (fun k => ?_)
      (ih (i + 1) _ _ (by omega) (by omega) (by simp; omega) (by omega) (by omega))
    simp only [nat_Add.l0]
    rw [if_pos (by omega), if_pos (by omega), if_pos (by omega)]
    have hw : wrap64 ((i : Int) + 1) = ((i + 1 : Nat) : Int) := by rw [w64 _ (by omega) (by omega)]; omega
    have hlen : (i : Int) < ((d ++ List.replicate (j + 1 + 1) 0).length : Int) := by simp; omega
    simp only [rd_nat, hw, Int.toNat_natCast]
    rw [u64w (x0.getD i 0) (by omega) (by omega), u64w (c + x0.getD i 0) (by omega) (by omega)]
    by_cases hb : (i : Int) < (x1.length : Int)
    · rw [if_pos hb, if_pos hlen, u64w (x1.getD i 0) (by omega) (by omega), u64w (c + x0.getD i 0 + x1.getD i 0) (by omega) (by omega), ← hd, set_zeros]
    · rw [if_neg hb, if_pos hlen]
      have hz : x1.getD i 0 = 0 := getD_out (by omega)
      rw [hz, Int.add_zero, ← hd, set_zeros]
theorem nadd_long (x0 x1 : List Int) (h0 : Limbs x0) (h1 : Limbs x1) (hl : x0.length ≤ 70368744177663) (hle : x1.length ≤ x0.length) :
    Ev (fun k => nat_Add.l0 k x0 x1 (List.replicate (x0.length + 1) 0) 0 (x0.length : Int) 0) (toL (val x0 + val x1)) := by
  have h := nadd_l0 x0 x1 h0 h1 hl x0.length 0 [] 0 (by omega) (by omega) rfl (by decide) (by decide)
  simp only [List.nil_append, List.drop_zero] at h
  obtain ⟨hv, hL⟩ := addE_val x0 (pad x0.length x1) 0 (by rw [pad_length]) h0 (pad_limbs _ h1) (by decide) (by decide)
  rw [strip_eq hL, hv, val_pad _ _ hle] at h
  have e : (0 : Int).toNat + val x0 + val x1 = val x0 + val x1 := by simp
  rw [e] at h
  exact h
/-- nat.Add: the sum. -/
theorem nadd_ev (x0 x1 : List Int) (h0 : Limbs x0) (h1 : Limbs x1) (l0 : x0.length ≤ 70368744177663) (l1 : x1.length ≤ 70368744177663) : Ev (fun k => nat_Add.f k x0 x1) (toL (val x0 + val x1)) := by
  by_cases hc : (x0.length : Int) < (x1.length : Int)
  · refine Ev.congr (f := fun k => nat_Add.l0 k x1 x0 (List.replicate (x1.length + 1) 0) 0 (x1.length : Int) 0) (fun k => ?_) ?_
    · unfold nat_Add.f
      have hw : wrap64 ((x1.length : Int) + 1) = ((x1.length + 1 : Nat) : Int) := by rw [w64 _ (by omega) (by omega)]; omega
      rw [if_pos hc, hw, Int.toNat_natCast, if_pos (by omega), if_pos (by omega)]
    · rw [Nat.add_comm (val x0)]
      exact nadd_long x1 x0 h1 h0 l1 (by omega)
  · refine Ev.congr (f := fun k => nat_Add.l0 k x0 x1 (List.replicate (x0.length + 1) 0) 0 (x0.length : Int) 0) (fun k => ?_) (nadd_long x0 x1 h0 h1 l0 (by omega))
    unfold nat_Add.f
    have hw : wrap64 ((x0.length : Int) + 1) = ((x0.length + 1 : Nat) : Int) := by rw [w64 _ (by omega) (by omega)]; omega
    rw [if_neg hc, hw, Int.toNat_natCast, if_pos (by omega), if_pos (by omega)]

theorem ncmp_l0 (a b : List Int) (ha : Limbs a) (hb : Limbs b) (hl : a.length = b.length) (hn : a.length ≤ 4611686018427387904) : ∀ m : Nat, m ≤ a.length →
    Ev (fun k => nat_Cmp.l0 k a b ((m : Int) - 1)) (cmpN (val (a.take m)) (val (b.take m))) := by
  intro m
  induction m with
  | zero =>
    intro _
    refine Ev.step (f := fun _ => some (cmpN (val (a.take 0)) (val (b.take 0)))) (fun k => ?_) (Ev.now _)
    simp only [nat_Cmp.l0]
    rw [if_neg (by omega)]
    simp [val, cmpN]
  | succ m ih =>
    intro hm
    have he : ((m + 1 : Nat) : Int) - 1 = (m : Int) := by omega
    have hx := ha.rd m
    have hy := hb.rd m
    have hL : (a.take m).length = (b.take m).length := by simp; omega
    rw [he, take_rd (show m < a.length by omega), take_rd (show m < b.length by omega)]
    by_cases hc : a.getD m 0 = b.getD m 0
    · rw [hc, cmpN_snoc_same hL]
      refine Ev.step (f := fun k => nat_Cmp.l0 k a b ((m : Int) - 1)) (fun k => ?_) (ih (by omega))
      simp only [nat_Cmp.l0]
      rw [if_pos (by omega), if_pos (by omega), if_pos (by omega), if_pos (by omega), rd_nat, rd_nat, if_pos hc, w64 _ (by omega) (by omega)]
    · by_cases hd : a.getD m 0 < b.getD m 0
      · rw [cmpN_lt (val_snoc_lt hL (ha.take m) hx.1 hd)]
        refine Ev.step (f := fun _ => some (-1)) (fun k => ?_) (Ev.now _)
        simp only [nat_Cmp.l0]
        rw [if_pos (by omega), if_pos (by omega), if_pos (by omega), if_pos (by omega), rd_nat, rd_nat, if_neg hc, if_pos hd]
      · rw [cmpN_gt (val_snoc_lt hL.symm (hb.take m) hy.1 (by omega))]
        refine Ev.step (f := fun _ => some 1) (fun k => ?_) (Ev.now _)
        simp only [nat_Cmp.l0]
        rw [if_pos (by omega), if_pos (by omega), if_pos (by omega), if_pos (by omega), rd_nat, rd_nat, if_neg hc, if_neg hd]
/-- nat.Cmp: below, the same, above. -/
theorem ncmp_ev (a b : List Int) (ha : Limbs a) (hb : Limbs b) (la : a.length ≤ 4611686018427387904) (lb : b.length ≤ 4611686018427387904) : Ev (fun k => nat_Cmp.f k a b) (cmpN (val a) (val b)) := by
  have h1 := trim_toL a ha la
  have h2 := trim_toL b hb lb
  have l1 := toL_le_of_limbs ha
  have l2 := toL_le_of_limbs hb
  refine Ev.bind h1 (Ev.bind h2 ?_)
  by_cases hc : ((toL (val a)).length : Int) = ((toL (val b)).length : Int)
  · have h := ncmp_l0 (toL (val a)) (toL (val b)) (limbs_toL _) (limbs_toL _) (by omega) (by omega) (toL (val a)).length (Nat.le_refl _)
    rw [List.take_length, show (toL (val b)).take (toL (val a)).length = toL (val b) from List.take_of_length_le (by omega), val_toL, val_toL] at h
    refine Ev.congr (fun k => ?_) h
    simp only [if_pos hc]
    rw [w64 _ (by omega) (by omega)]
  · by_cases hd : ((toL (val a)).length : Int) < ((toL (val b)).length : Int)
    · rw [cmpN_lt (toL_len_lt (by omega))]
      refine Ev.congr (f := fun _ => some (-1)) (fun k => ?_) (Ev.now _)
      simp only [if_neg hc, if_pos hd]
    · rw [cmpN_gt (toL_len_lt (by omega))]
      refine Ev.congr (f := fun _ => some 1) (fun k => ?_) (Ev.now _)
      simp only [if_neg hc, if_neg hd]

theorem nless_l0 (x0 x1 : List Int) (h0 : Limbs x0) (h1 : Limbs x1) (hl : x0.length ≤ 70368744177664) : ∀ (j i : Nat) (d : List Int) (c : Int), x0.length - i = j → i ≤ x0.length → d.length = i → 0 ≤ c → c ≤ 1 →
    Ev (fun k => nat_less.l0 k x0 x1 (d ++ List.replicate j 0) c (x0.length : Int) (i : Int)) (strip (d ++ subE c (x0.drop i) (pad j (x1.drop i)))) := by
  intro j
  induction j with
  | zero =>
    intro i d c hj hi hd hc0 hc1
    have hfin : d ++ subE c (x0.drop i) (pad 0 (x1.drop i)) = d := by
      rw [List.drop_eq_nil_of_le (by omega)]
      simp [subE]
    have hout : d ++ List.replicate 0 0 = d := by simp
    rw [hfin, hout]
    refine Ev.step (f := fun k => (nat_trim.f k d).bind fun t => some t) (fun k => ?_) ?_
    · simp only [nat_less.l0]
      rw [if_neg (by omega)]
    · exact Ev.bind (f := fun _ t => some t) (trim_ev _ _ rfl (by omega)) (Ev.now _)
  | succ j ih =>
    intro i d c hj hi hd hc0 hc1
    have hx := h0.rd i
    have hy := h1.rd i
    rw [drop_rd (show i < x0.length by omega), pad_drop]
    have hstep : d ++ subE c (x0.getD i 0 :: x0.drop (i + 1)) (x1.getD i 0 :: pad j (x1.drop (i + 1))) = (d ++ [(x0.getD i 0 - c - x1.getD i 0) % 4294967296]) ++ subE (if x0.getD i 0 - c - x1.getD i 0 < 0 then 1 else 0) (x0.drop (i + 1)) (pad j (x1.drop (i + 1))) := by
      simp [subE]
    rw [hstep]
    refine Ev.step (f := fun k => nat_less.l0 k x0 x1 ((d ++ [(x0.getD i 0 - c - x1.getD i 0) % 4294967296]) ++ List.replicate j 0) (if x0.getD i 0 - c - x1.getD i 0 < 0 then 1 else 0) (x0.length : Int) ((i + 1 : Nat) : Int)) (fun k => ?_)
      (ih (i + 1) _ _ (by omega) (by omega) (by simp; omega) (by split <;> omega) (by split <;> omega))
    simp only [nat_less.l0]
    rw [if_pos (by omega), if_pos (by omega), if_pos (by omega)]
    have hw : wrap64 ((i : Int) + 1) = ((i + 1 : Nat) : Int) := by rw [w64 _ (by omega) (by omega)]; omega
    have hlen : (i : Int) < ((d ++ List.replicate (j + 1) 0).length : Int) := by simp; omega
    have hu : ∀ v : Int, v = x0.getD i 0 - c - x1.getD i 0 → IntKind.u64.wrap v % 4294967296 = (x0.getD i 0 - c - x1.getD i 0) % 4294967296 ∧ IntKind.u64.wrap v / 9223372036854775808 = (if x0.getD i 0 - c - x1.getD i 0 < 0 then 1 else 0) := by
      intro v hv
      subst hv
      rw [IntKind.wrap_u64]
      split <;> omega
    simp only [rd_nat, hw, Int.toNat_natCast]
    rw [u64w (x0.getD i 0) (by omega) (by omega)]
    by_cases hb : (i : Int) < (x1.length : Int)
    · rw [if_pos hb, if_pos hlen, u64w (x1.getD i 0) (by omega) (by omega)]
      have hin : IntKind.u64.wrap (IntKind.u64.wrap (x0.getD i 0 - c) - x1.getD i 0) = IntKind.u64.wrap (x0.getD i 0 - c - x1.getD i 0) := by
        rw [IntKind.wrap_u64, IntKind.wrap_u64, IntKind.wrap_u64]
        omega
      rw [hin, (hu _ rfl).1, (hu _ rfl).2, ← hd, set_zeros]
    · rw [if_neg hb, if_pos hlen]
      have hz : x1.getD i 0 = 0 := getD_out (by omega)
      have hin : x0.getD i 0 - c = x0.getD i 0 - c - x1.getD i 0 := by omega
      rw [(hu _ hin).1, (hu _ hin).2, ← hd, set_zeros]
/-- nat.less: the difference of a and a b that is no longer, nor greater. -/
theorem nless_ev (x0 x1 : List Int) (h0 : Limbs x0) (h1 : Limbs x1) (hl : x0.length ≤ 70368744177664) (hle : x1.length ≤ x0.length) (hv : val x1 ≤ val x0) : Ev (fun k => nat_less.f k x0 x1) (toL (val x0 - val x1)) := by
  have h := nless_l0 x0 x1 h0 h1 hl x0.length 0 [] 0 (by omega) (by omega) rfl (by decide) (by decide)
  simp only [List.nil_append, List.drop_zero] at h
  have hp := val_pad x0.length x1 hle
  obtain ⟨hs, hL⟩ := subE_val x0 (pad x0.length x1) 0 (by rw [pad_length]) h0 (pad_limbs _ h1) (by decide) (by decide) (by rw [hp]; simpa using hv)
  have e : val (subE 0 x0 (pad x0.length x1)) = val x0 - val x1 := by
    rw [hp] at hs
    simp at hs
    omega
  rw [strip_eq hL, e] at h
  refine Ev.congr (fun k => ?_) h
  unfold nat_less.f
  rw [if_pos (by omega), Int.toNat_natCast, if_pos (by omega)]
  rfl

/-- nat.Sub: the difference, or an error where it is below 0. -/
theorem nsub_ev (a b : List Int) (ha : Limbs a) (hb : Limbs b) (la : a.length ≤ 70368744177664) (lb : b.length ≤ 70368744177664) : Ev (fun k => nat_Sub.f k a b) (if val a < val b then ([], 10) else (toL (val a - val b), 0)) := by
  refine Ev.bind (ncmp_ev a b ha hb (by omega) (by omega)) ?_
  by_cases hc : val a < val b
  · rw [if_pos hc]
    refine Ev.congr (f := fun _ => some (([] : List Int), (10 : Int))) (fun k => ?_) (Ev.now _)
    simp only [if_pos (cmpN_neg.2 hc)]
  · rw [if_neg hc]
    have l1 := toL_le_of_limbs ha
    have h3 : Ev (fun k => nat_less.f k (toL (val a)) (toL (val b))) (toL (val a - val b)) := by
      have := nless_ev (toL (val a)) (toL (val b)) (limbs_toL _) (limbs_toL _) (by omega) (toL_mono (by omega)) (by rw [val_toL, val_toL]; omega)
      rwa [val_toL, val_toL] at this
    refine Ev.congr (f := fun k => (nat_trim.f k a).bind fun t => (nat_trim.f k b).bind fun u => (nat_less.f k t u).bind fun r => some (r, (0 : Int))) (fun k => ?_) ?_
    · simp only [if_neg (fun h => hc (cmpN_neg.1 h))]
    · exact Ev.bind (trim_toL a ha (by omega)) (Ev.bind (f := fun k u => (nat_less.f k (toL (val a)) u).bind fun r => some (r, (0 : Int))) (trim_toL b hb (by omega)) (Ev.bind (f := fun _ r => some (r, (0 : Int))) h3 (Ev.now _)))

/-- zint.Add: the sum. -/
theorem zadd_ev (n m : Bool) (a b : List Int) (ha : Limbs a) (hb : Limbs b) (la : a.length ≤ 70368744177663) (lb : b.length ≤ 70368744177663) : Ev (fun k => zint_Add.f k n a m b) (rep (ival n a + ival m b)) := by
  have hpair : ∀ (p : Bool × List Int), (fun bt : Bool × List Int => some (bt.1, bt.2)) p = some p := fun p => rfl
  have l1 := toL_le_of_limbs ha
  have l2 := toL_le_of_limbs hb
  have len : (toL (val a + val b)).length ≤ 70368744177664 := by
    have := add_len ha hb
    omega
  by_cases hs : (n == m) = true
  · have he : n = m := by simpa using hs
    subst he
    rw [← ival_same]
    refine Ev.congr (f := fun k => (nat_Add.f k a b).bind fun t => (zint_made.f k n t).bind fun bt => some (bt.1, bt.2)) (fun k => ?_) ?_
    · unfold zint_Add.f
      rw [if_pos hs]
    · exact Ev.bind (nadd_ev a b ha hb la lb) (Ev.bind (f := fun _ bt => some (bt.1, bt.2)) (made_rep n _ (limbs_toL _) len) (Ev.now _))
  · have hsub : ∀ (x y : List Int) (o : Bool), Limbs x → Limbs y → x.length ≤ 70368744177663 → y.length ≤ 70368744177663 → val y ≤ val x →
        Ev (fun k => (nat_Sub.f k x y).bind fun bt => (zint_made.f k o bt.1).bind fun b2 => some (b2.1, b2.2)) (rep (ival o (toL (val x - val y)))) := by
      intro x y o hx hy lx ly hv
      have h1 := nsub_ev x y hx hy (by omega) (by omega)
      rw [if_neg (by omega)] at h1
      have h2 := toL_mono (show val x - val y ≤ val x by omega)
      have h3 := toL_le_of_limbs hx
      exact Ev.bind h1 (Ev.bind (f := fun _ bt => some (bt.1, bt.2)) (made_rep o _ (limbs_toL _) (by omega)) (Ev.now _))
    have hne : m = !n := by
      cases n <;> cases m <;> simp at hs ⊢
    by_cases hc : val a < val b
    · have h := hsub b a m hb ha lb la (by omega)
      have e : ival m (toL (val b - val a)) = ival n a + ival m b := by
        rw [hne]
        unfold ival
        rw [val_toL]
        cases n <;> simp <;> omega
      rw [e] at h
      refine Ev.congr (f := fun k => (nat_Cmp.f k a b).bind fun t => if t < 0 then ((nat_Sub.f k b a).bind fun bt => (zint_made.f k m bt.1).bind fun b2 => some (b2.1, b2.2)) else ((nat_Sub.f k a b).bind fun bt => (zint_made.f k n bt.1).bind fun b2 => some (b2.1, b2.2))) (fun k => ?_) ?_
      · unfold zint_Add.f
        rw [if_neg hs]
      · refine Ev.bind (ncmp_ev a b ha hb (by omega) (by omega)) ?_
        simp only [if_pos (cmpN_neg.2 hc)]
        exact h
    · have h := hsub a b n ha hb la lb (by omega)
      have e : ival n (toL (val a - val b)) = ival n a + ival m b := by
        rw [hne]
        unfold ival
        rw [val_toL]
        cases n <;> simp <;> omega
      rw [e] at h
      refine Ev.congr (f := fun k => (nat_Cmp.f k a b).bind fun t => if t < 0 then ((nat_Sub.f k b a).bind fun bt => (zint_made.f k m bt.1).bind fun b2 => some (b2.1, b2.2)) else ((nat_Sub.f k a b).bind fun bt => (zint_made.f k n bt.1).bind fun b2 => some (b2.1, b2.2))) (fun k => ?_) ?_
      · unfold zint_Add.f
        rw [if_neg hs]
      · refine Ev.bind (ncmp_ev a b ha hb (by omega) (by omega)) ?_
        simp only [if_neg (fun h => hc (cmpN_neg.1 h))]
        exact h

theorem set_mid (pre os : List Int) (o v : Int) (i : Nat) (h : pre.length = i) : (pre ++ (o :: os)).set i v = (pre ++ [v]) ++ os := by
  subst h
  simp
theorem rd_mid (pre os : List Int) (o : Int) (i : Nat) (h : pre.length = i) : (pre ++ (o :: os)).getD i 0 = o := by
  subst h
  simp

end Go.Proofs.Ytgnonaokinfaeaa.PSums
