/- Plain lemmas on the printed functions of ZintSums: what each comes to. -/
import Derived.Test.YtgnonaokinfaeaaSumsA8
import Derived.Test.YtgnonaokinfaeaaSumsB1
import Derived.Test.YtgnonaokinfaeaaMul
import Derived.Test.YtgnonaokinfaeaaSteps
namespace Go.Proofs.Ytgnonaokinfaeaa.PSums
open Go.RowKit Go.Proofs.YtgnonaokinfaeaaW.PrintWords Go.Proofs.YtgnonaokinfaeaaW.PrintMore Go.Proofs.Ytgnonaokinfaeaa.Num
set_option linter.unusedVariables false

set_option maxHeartbeats 800000 in
theorem nmul_l1 (x0 x1 : List Int) (h0 : Limbs x0) (h1 : Limbs x1) (i m : Nat) (R : List Int) (hi : i < x0.length) (hl : x0.length + x1.length ≤ 70368744177664) : ∀ (q j : Nat) (pre os : List Int) (c : Int), x1.length - j = q → j ≤ x1.length → pre.length = i + j → os.length = q → Limbs os → 0 ≤ c → c < 4294967296 →
    Ev (fun k => nat_Mul.l0 k x0 x1 (pre ++ mulRow (x0.getD i 0) c (x1.drop j) os ++ List.replicate m 0) (x0.length : Int) ((i + 1 : Nat) : Int)) R →
    Ev (fun k => nat_Mul.l1 k x0 x1 (pre ++ os ++ List.replicate (m + 1) 0) (i : Int) c (x0.length : Int) (i : Int) (x1.length : Int) (j : Int)) R := by
  intro q
  induction q with
  | zero =>
    intro j pre os c hq hj hp ho hL hc0 hc1 hR
    obtain rfl : os = [] := List.eq_nil_of_length_eq_zero ho
    have hjl : j = x1.length := by omega
    subst hjl
    have e1 : pre ++ mulRow (x0.getD i 0) c (x1.drop x1.length) [] ++ List.replicate m 0 = pre ++ [c] ++ List.replicate m 0 := by
      rw [List.drop_length]
      rfl
    rw [e1] at hR
    have hc : c % 4294967296 = c := by omega
    have hw : wrap64 ((i : Int) + (x1.length : Int)) = ((i + x1.length : Nat) : Int) := by rw [w64 _ (by omega) (by omega)]; omega
    refine Ev.step (f := fun k => nat_Mul.l0 k x0 x1 (pre ++ [c] ++ List.replicate m 0) (x0.length : Int) ((i + 1 : Nat) : Int)) (fun k => ?_) hR
    simp only [nat_Mul.l1]
    rw [if_neg (by omega), hw, if_pos (by omega), if_pos (by simp; omega), Int.toNat_natCast, hc, w64 ((i : Int) + 1) (by omega) (by omega), List.append_nil, List.replicate_succ, set_mid pre _ _ _ _ hp]
    rfl
  | succ q ih =>
    intro j pre os c hq hj hp ho hL hc0 hc1 hR
    match os, ho with
    | o :: os, ho =>
      have hx := h0.rd i
      have hy := h1.rd j
      have ho2 := hL.head
      have hb := mul_bound hx hy
      obtain ⟨p, hpq⟩ : ∃ p, x0.getD i 0 * x1.getD j 0 = p := ⟨_, rfl⟩
      rw [hpq] at hb
      have HP := Aside0.mk hpq
      clear hpq
      rw [drop_rd (show j < x1.length by omega)] at hR
      have f1 : (j : Int) < (x1.length : Int) := by omega
      have f2 : (0 : Int) ≤ (i : Int) := by omega
      have f3 : (i : Int) < (x0.length : Int) := by omega
      have f4 : (0 : Int) ≤ (j : Int) := by omega
      have f5 : (0 : Int) ≤ ((i + j : Nat) : Int) := by omega
      have f6 : ((i + j : Nat) : Int) < ((pre ++ o :: os ++ List.replicate (m + 1) 0).length : Int) := by simp; omega
      refine Ev.step (f := fun k => nat_Mul.l1 k x0 x1 ((pre ++ [(c + p + o) % 4294967296]) ++ os ++ List.replicate (m + 1) 0) (i : Int) ((c + p + o) / 4294967296) (x0.length : Int) (i : Int) (x1.length : Int) ((j + 1 : Nat) : Int)) (fun k => ?_)
        (ih (j + 1) _ os _ (by omega) (by omega) (by simp; omega) (by simpa using ho) hL.tail (by omega) (by omega) ?_)
      · simp only [nat_Mul.l1]
        rw [if_pos f1, if_pos f2, if_pos f3, if_pos f4, if_pos f1, w64 ((i : Int) + (j : Int)) (by omega) (by omega), show (i : Int) + (j : Int) = ((i + j : Nat) : Int) from (Int.natCast_add i j).symm, if_pos f5, if_pos f6]
        simp only [rd_nat, Int.toNat_natCast]
        have e2 : pre ++ o :: os ++ List.replicate (m + 1) 0 = pre ++ (o :: (os ++ List.replicate (m + 1) 0)) := by simp
        rw [e2, rd_mid pre _ _ _ hp, u64w (x0.getD i 0) (by omega) (by omega), u64w (x1.getD j 0) (by omega) (by omega), u64w o (by omega) (by omega)]
        rw [HP.out, u64w p (by omega) (by omega), u64w (p + o) (by omega) (by omega), u64w (c + (p + o)) (by omega) (by omega), set_mid pre _ _ _ _ hp, w64 ((j : Int) + 1) (by omega) (by omega), ← Int.add_assoc, List.append_assoc (pre ++ _) os]
        rfl
      · have e3 : pre ++ mulRow (x0.getD i 0) c (x1.getD j 0 :: x1.drop (j + 1)) (o :: os) ++ List.replicate m 0 = (pre ++ [(c + p + o) % 4294967296]) ++ mulRow (x0.getD i 0) ((c + p + o) / 4294967296) (x1.drop (j + 1)) os ++ List.replicate m 0 := by
          rw [mulRow, HP.out]
          simp
        rw [e3] at hR
        exact hR
theorem nmul_l0 (x0 x1 : List Int) (h0 : Limbs x0) (h1 : Limbs x1) (hl : x0.length + x1.length ≤ 70368744177664) : ∀ (q i : Nat) (d s : List Int), x0.length - i = q → i ≤ x0.length → d.length = i → s.length = x1.length → Limbs s →
    Ev (fun k => nat_Mul.l0 k x0 x1 (d ++ s ++ List.replicate q 0) (x0.length : Int) (i : Int)) (strip (d ++ mulAll x1 (x0.drop i) s)) := by
  intro q
  induction q with
  | zero =>
    intro i d s hq hi hd hs hL
    rw [List.drop_eq_nil_of_le (by omega), mulAll]
    refine Ev.step (f := fun k => (nat_trim.f k (d ++ s)).bind fun t => some t) (fun k => ?_) (Ev.bind (f := fun _ t => some t) (trim_ev _ (d ++ s) rfl (by simp; omega)) (Ev.now _))
    simp only [nat_Mul.l0]
    rw [if_neg (by omega), List.replicate_zero, List.append_nil]
  | succ q ih =>
    intro i d s hq hi hd hs hL
    have hx := h0.rd i
    obtain ⟨hv, hR⟩ := mulRow_val (x0.getD i 0) hx x1 s 0 hs.symm h1 hL (by decide) (by decide)
    have hlen := mulRow_length (x0.getD i 0) x1 s 0 hs.symm
    rw [drop_rd (show i < x0.length by omega)]
    simp only [mulAll]
    refine Ev.step (f := fun k => nat_Mul.l1 k x0 x1 (d ++ s ++ List.replicate (q + 1) 0) (i : Int) 0 (x0.length : Int) (i : Int) (x1.length : Int) 0) (fun k => ?_) ?_
    · simp only [nat_Mul.l0]
      rw [if_pos (by omega)]
    · refine nmul_l1 x0 x1 h0 h1 i q _ (by omega) hl x1.length 0 d s 0 (by omega) (by omega) (by omega) hs hL (by decide) (by decide) ?_
      rw [List.drop_zero]
      match hr : mulRow (x0.getD i 0) 0 x1 s, hR, hlen with
      | r :: rt, hR, hlen =>
        have h := ih (i + 1) (d ++ [r]) rt (by omega) (by omega) (by simp; omega) (by simpa using hlen) hR.tail
        simp only [List.headD_cons, List.tail_cons]
        have e1 : d ++ [r] ++ rt ++ List.replicate q 0 = d ++ r :: rt ++ List.replicate q 0 := by simp
        have e2 : d ++ [r] ++ mulAll x1 (x0.drop (i + 1)) rt = d ++ r :: mulAll x1 (x0.drop (i + 1)) rt := by simp
        rw [e1, e2] at h
        exact h
      | [], _, hlen => simp at hlen
/-- nat.Mul: the product. -/
theorem nmul_ev (a b : List Int) (ha : Limbs a) (hb : Limbs b) (hl : a.length + b.length ≤ 70368744177664) : Ev (fun k => nat_Mul.f k a b) (toL (val a * val b)) := by
  have l1 := toL_le_of_limbs ha
  have l2 := toL_le_of_limbs hb
  refine Ev.bind (trim_toL a ha (by omega)) (Ev.bind (trim_toL b hb (by omega)) ?_)
  have h := nmul_l0 (toL (val a)) (toL (val b)) (limbs_toL _) (limbs_toL _) (by omega) (toL (val a)).length 0 [] (List.replicate (toL (val b)).length 0) (by omega) (by omega) rfl (by simp) (fun x hx => by rw [List.eq_of_mem_replicate hx]; decide)
  obtain ⟨hv, hL⟩ := mulAll_val (toL (val b)) (limbs_toL _) (toL (val a)) (List.replicate (toL (val b)).length 0) (by simp) (limbs_toL _) (fun x hx => by rw [List.eq_of_mem_replicate hx]; decide)
  rw [List.drop_zero, List.nil_append, List.nil_append, strip_eq hL, hv, val_toL, val_toL, val_zeros, Nat.add_zero, List.replicate_append_replicate] at h
  refine Ev.congr (fun k => ?_) h
  have hw : wrap64 (((toL (val a)).length : Int) + ((toL (val b)).length : Int)) = (((toL (val b)).length + (toL (val a)).length : Nat) : Int) := by rw [w64 _ (by omega) (by omega)]; omega
  simp only [hw, Int.toNat_natCast]
  rw [if_pos (by omega), if_pos (by omega)]
  rfl
/-- zint.Mul. -/
theorem zmul_ev (n m : Bool) (a b : List Int) (ha : Limbs a) (hb : Limbs b) (hl : a.length + b.length ≤ 70368744177664) : Ev (fun k => zint_Mul.f k n a m b) (rep (ival n a * ival m b)) := by
  rw [← ival_mul]
  have h := mul_len ha hb
  exact Ev.bind (nmul_ev a b ha hb hl) (Ev.bind (f := fun _ bt => some (bt.1, bt.2)) (made_rep (n != m) _ (limbs_toL _) (by omega)) (Ev.now _))

end Go.Proofs.Ytgnonaokinfaeaa.PSums
