/- Plain lemmas on the printed functions of ZintTexts: what each comes to. -/
import Derived.Test.YtgnonaokinfaeaaTextsB1
import Derived.Test.YtgnonaokinfaeaaSteps
namespace Go.Proofs.Ytgnonaokinfaeaa.PTexts
open Go.RowKit Go.Proofs.YtgnonaokinfaeaaW.PrintWords Go.Proofs.YtgnonaokinfaeaaW.PrintMore Go.Proofs.Ytgnonaokinfaeaa.Num
set_option linter.unusedVariables false

theorem rep_set (m : Nat) (q : List Int) (v : Int) : (List.replicate (m + 1) (0 : Int) ++ q).set m v = List.replicate m 0 ++ v :: q := by
  rw [List.replicate_succ', List.append_assoc, List.singleton_append, set_mid (List.replicate m 0) q 0 v m (by simp), List.append_assoc, List.singleton_append]
theorem or_sum2 (x y : Int) (hx : 0 ≤ x ∧ x < 4294967296) (hy : 0 ≤ y ∧ y < 4294967296) : Go.bits .or .u64 (y * 4294967296) x = y * 4294967296 + x := by
  obtain ⟨a, rfl⟩ := Int.eq_ofNat_of_zero_le hx.1
  obtain ⟨b, rfl⟩ := Int.eq_ofNat_of_zero_le hy.1
  rw [show ((b : Int) * 4294967296) = ((b * 4294967296 : Nat) : Int) by omega, Go.u64_or_nat _ _ (by omega) (by omega)]
  have h := Nat.two_pow_add_eq_or_of_lt (b := a) (i := 32) (by omega) b
  rw [Nat.mul_comm b, show (4294967296 : Nat) = 2 ^ 32 from rfl, ← h]
  omega
/-- The figures of one limb of nine figures, the last first; without noughts at the end where nothing follows. -/
def chunk : Nat → Bool → Nat → List Int
  | 0, _, _ => []
  | j + 1, more, r => if more = true ∨ 0 < r then ((48 + r % 10 : Nat) : Int) :: chunk j more (r / 10) else []
theorem chunk_len : ∀ (j : Nat) (more : Bool) (r : Nat), (chunk j more r).length ≤ j
  | 0, _, _ => by simp [chunk]
  | j + 1, more, r => by
    unfold chunk
    split
    · have := chunk_len j more (r / 10)
      simp
      exact this
    · simp
/-- The figures of a number, the last first. -/
def dig (n : Nat) : List Int := if n = 0 then [] else chunk 9 (decide (0 < n / 1000000000)) (n % 1000000000) ++ dig (n / 1000000000)
termination_by n
decreasing_by omega
theorem dig_zero : dig 0 = [] := by rw [dig]; rfl
theorem dig_pos {n : Nat} (h : 0 < n) : dig n = chunk 9 (decide (0 < n / 1000000000)) (n % 1000000000) ++ dig (n / 1000000000) := by
  rw [dig, if_neg (by omega)]
/-- The text of a magnitude. -/
def txt (n : Nat) : ByteArray := if n = 0 then ⟨#[48]⟩ else strOfNums (dig n).reverse
theorem toL_len_pos {n : Nat} (h : 0 < n) : 0 < (toL n).length := by
  rw [List.length_pos_iff, Ne, toL_nil]
  omega
theorem toL_more (n : Nat) : decide (0 < (toL n).length) = decide (0 < n) := by
  refine decide_eq_decide.2 ⟨fun h => ?_, toL_len_pos⟩
  rcases Nat.eq_zero_or_pos n with h0 | h0
  · rw [h0, toL_zero] at h
    simp at h
  · exact h0
theorem val_pow {l : List Int} (h : Limbs l) : val l < 1000000000 ^ (2 * l.length) := by
  have h1 := val_lt h
  have h2 : 4294967296 ^ l.length ≤ (1000000000 ^ 2) ^ l.length := Nat.pow_le_pow_left (by decide) _
  rw [← Nat.pow_mul] at h2
  exact Nat.lt_of_lt_of_le h1 h2
theorem dig_len : ∀ (s n : Nat), n < 1000000000 ^ s → (dig n).length ≤ 9 * s
  | 0, n, h => by
    have : n = 0 := by simpa using h
    rw [this, dig_zero]
    simp
  | s + 1, n, h => by
    rcases Nat.eq_zero_or_pos n with h0 | h0
    · rw [h0, dig_zero]
      simp
    · have h1 : n / 1000000000 < 1000000000 ^ s := by
        rw [Nat.div_lt_iff_lt_mul (by decide)]
        rw [Nat.pow_succ] at h
        exact h
      have h2 := dig_len s _ h1
      have h3 := chunk_len 9 (decide (0 < n / 1000000000)) (n % 1000000000)
      rw [dig_pos h0, List.length_append]
      omega
theorem str_append (a b : List Int) : strOfNums (a ++ b) = strOfNums a ++ strOfNums b := by
  apply ByteArray.ext
  simp [strOfNums]
theorem str_nil : strOfNums [] = (⟨#[]⟩ : ByteArray) := rfl
theorem str_size (a : List Int) : (strOfNums a).size = a.length := strOfNums_size a

theorem nshort_l0 (x : List Int) (hL : Limbs x) (hl : x.length ≤ 1099511627776) : ∀ (m : Nat) (q : List Int) (r : Int), m ≤ x.length → q.length = x.length - m → Limbs q → 0 ≤ r → r < 1000000000 → val q * 1000000000 + r.toNat = val (x.drop m) →
    Ev (fun k => nat_short.l0 k x 1000000000 (List.replicate m 0 ++ q) r ((m : Int) - 1)) (toL (val x / 1000000000), ((val x % 1000000000 : Nat) : Int)) := by
  intro m
  induction m with
  | zero =>
    intro q r hm hq hQ hr0 hr1 hv
    rw [List.drop_zero] at hv
    have e1 : val x / 1000000000 = val q := by omega
    have e2 : ((val x % 1000000000 : Nat) : Int) = r := by omega
    rw [e1, e2]
    have hr : r % 4294967296 = r := by omega
    refine Ev.step (f := fun k => (nat_trim.f k q).bind fun t => some (t, r)) (fun k => ?_) (Ev.bind (f := fun _ t => some (t, r)) (trim_toL q hQ (by omega)) (Ev.now _))
    simp only [nat_short.l0]
    rw [if_neg (by omega), hr]
    rfl
  | succ m ih =>
    intro q r hm hq hQ hr0 hr1 hv
    have hx := hL.rd m
    rw [drop_rd (show m < x.length by omega)] at ih
    have hs : ∃ S : Int, S = r * 4294967296 + x.getD m 0 := ⟨_, rfl⟩
    obtain ⟨S, hS⟩ := hs
    have hor := or_sum2 (x.getD m 0) r hx ⟨hr0, by omega⟩
    rw [← hS] at hor
    have hD : IntKind.u64.wrap 1000000000 = 1000000000 := u64w _ (by decide) (by decide)
    have hS0 : 0 ≤ S := by omega
    have hS1 : S < 4294967296000000000 := by omega
    have ht : Int.tdiv S 1000000000 = S / 1000000000 := Int.tdiv_eq_ediv_of_nonneg hS0
    have htm : Int.tmod S 1000000000 = S % 1000000000 := Int.tmod_eq_emod_of_nonneg hS0
    have hw1 : IntKind.u64.wrap (S / 1000000000) = S / 1000000000 := u64w _ (by omega) (by omega)
    have hw2 : (S / 1000000000) % 4294967296 = S / 1000000000 := by omega
    have hq1 : IntKind.u64.wrap (r * 4294967296) = r * 4294967296 := u64w _ (by omega) (by omega)
    have hq2 : IntKind.u64.wrap (x.getD m 0) = x.getD m 0 := u64w _ (by omega) (by omega)
    have hww : wrap64 (((m + 1 : Nat) : Int) - 1 - 1) = (m : Int) - 1 := by rw [w64 _ (by omega) (by omega)]; omega
    have hidx : ((m + 1 : Nat) : Int) - 1 = (m : Int) := by omega
    have hval : val (S / 1000000000 :: q) * 1000000000 + (S % 1000000000).toNat = val (x.getD m 0 :: x.drop (m + 1)) := by
      simp only [val]
      clear ih hor ht htm hw1 hw2 hq1 hq2 hww hidx
      generalize val q = Q at hv ⊢
      generalize val (x.drop (m + 1)) = W at hv ⊢
      generalize x.getD m 0 = y at hx hS ⊢
      have g1 : 1000000000 * (S / 1000000000) + S % 1000000000 = S := Int.mul_ediv_add_emod S 1000000000
      have g2 : 0 ≤ S % 1000000000 := Int.emod_nonneg _ (by decide)
      have g3 : 0 ≤ S / 1000000000 := by omega
      generalize S / 1000000000 = A at g1 g3 ⊢
      generalize S % 1000000000 = C at g1 g2 ⊢
      have hv2 : (Q : Int) * 1000000000 + r = (W : Int) := by omega
      have hg : (A + 4294967296 * (Q : Int)) * 1000000000 + C = y + 4294967296 * (W : Int) := by omega
      have k1 : ((A.toNat : Nat) : Int) = A := Int.toNat_of_nonneg g3
      have k2 : ((C.toNat : Nat) : Int) = C := Int.toNat_of_nonneg g2
      have k3 : ((y.toNat : Nat) : Int) = y := Int.toNat_of_nonneg hx.1
      apply Int.ofNat.inj
      change (((A.toNat + 4294967296 * Q) * 1000000000 + C.toNat : Nat) : Int) = ((y.toNat + 4294967296 * W : Nat) : Int)
      rw [Int.natCast_add, Int.natCast_mul, Int.natCast_add, Int.natCast_mul, Int.natCast_add, Int.natCast_mul, k1, k2, k3]
      exact hg
    have hlen : (m : Int) < ((List.replicate (m + 1) (0 : Int) ++ q).length : Int) := by simp; omega
    have f1 : (m : Int) ≥ 0 := by omega
    have f2 : (m : Int) < (x.length : Int) := by omega
    have h := ih (S / 1000000000 :: q) (S % 1000000000) (by omega) (by simp; omega) (Limbs.cons (by omega) (by omega) hQ) (by omega) (by omega) hval
    refine Ev.step (f := fun k => nat_short.l0 k x 1000000000 (List.replicate m 0 ++ S / 1000000000 :: q) (S % 1000000000) ((m : Int) - 1)) (fun k => ?_) h
    simp only [nat_short.l0]
    rw [hww]
    simp only [hidx, rd_nat, hq1, hq2, hor, hD, ht, htm, hw1, hw2, Int.toNat_natCast, rep_set]
    rw [if_pos f1, if_pos f1, if_pos f2, if_neg (by decide), if_pos hlen]
theorem nshort_ev (x : List Int) (hL : Limbs x) (hl : x.length ≤ 1099511627776) : Ev (fun k => nat_short.f k x 1000000000) (toL (val x / 1000000000), ((val x % 1000000000 : Nat) : Int)) := by
  have h := nshort_l0 x hL hl x.length [] 0 (Nat.le_refl _) (by simp) Limbs.nil (by decide) (by decide) (by rw [List.drop_length]; rfl)
  rw [List.append_nil] at h
  refine Ev.congr (fun k => ?_) h
  unfold nat_short.f
  rw [w64 _ (by omega) (by omega), Int.toNat_natCast, if_pos (by omega), if_pos (by omega)]
theorem rshort_l0 (x : List Int) (hL : Limbs x) (hl : x.length ≤ 1099511627776) : ∀ (m : Nat) (q : List Int) (r : Int), m ≤ x.length → q.length = x.length - m → Limbs q → 0 ≤ r → r < 1000000000 → val q * 1000000000 + r.toNat = val (x.drop m) →
    Ev (fun k => trammelref01_small.l0 k x 1000000000 (List.replicate m 0 ++ q) r ((m : Int) - 1)) (toL (val x / 1000000000), ((val x % 1000000000 : Nat) : Int)) := by
  intro m
  induction m with
  | zero =>
    intro q r hm hq hQ hr0 hr1 hv
    rw [List.drop_zero] at hv
    have e1 : val x / 1000000000 = val q := by omega
    have e2 : ((val x % 1000000000 : Nat) : Int) = r := by omega
    rw [e1, e2, ← strip_eq hQ]
    refine Ev.step (f := fun k => (trammelref01_Norm.f k q).bind fun t => some (t, r)) (fun k => ?_) (Ev.bind (f := fun _ t => some (t, r)) (rnorm_ev q (by omega)) (Ev.now _))
    simp only [trammelref01_small.l0]
    rw [if_neg (by omega)]
    rfl
  | succ m ih =>
    intro q r hm hq hQ hr0 hr1 hv
    have hx := hL.rd m
    rw [drop_rd (show m < x.length by omega)] at ih
    have hs : ∃ S : Int, S = r * 4294967296 + x.getD m 0 := ⟨_, rfl⟩
    obtain ⟨S, hS⟩ := hs
    have hS0 : 0 ≤ S := by omega
    have hS1 : S < 4294967296000000000 := by omega
    have hor : IntKind.u64.wrap (r * 4294967296 + x.getD m 0) = S := by rw [u64w _ (by omega) (by omega), hS]
    have ht : Int.tdiv S 1000000000 = S / 1000000000 := Int.tdiv_eq_ediv_of_nonneg hS0
    have htm : Int.tmod S 1000000000 = S % 1000000000 := Int.tmod_eq_emod_of_nonneg hS0
    have hw1 : IntKind.u64.wrap (S / 1000000000) = S / 1000000000 := u64w _ (by omega) (by omega)
    have hw2 : (S / 1000000000) % 4294967296 = S / 1000000000 := by omega
    have hq1 : IntKind.u64.wrap (r * 4294967296) = r * 4294967296 := u64w _ (by omega) (by omega)
    have hq2 : IntKind.u64.wrap (x.getD m 0) = x.getD m 0 := u64w _ (by omega) (by omega)
    have hww : wrap64 (((m + 1 : Nat) : Int) - 1 - 1) = (m : Int) - 1 := by rw [w64 _ (by omega) (by omega)]; omega
    have hidx : ((m + 1 : Nat) : Int) - 1 = (m : Int) := by omega
    have hval : val (S / 1000000000 :: q) * 1000000000 + (S % 1000000000).toNat = val (x.getD m 0 :: x.drop (m + 1)) := by
      simp only [val]
      clear ih hor ht htm hw1 hw2 hq1 hq2 hww hidx
      generalize val q = Q at hv ⊢
      generalize val (x.drop (m + 1)) = W at hv ⊢
      generalize x.getD m 0 = y at hx hS ⊢
      have g1 : 1000000000 * (S / 1000000000) + S % 1000000000 = S := Int.mul_ediv_add_emod S 1000000000
      have g2 : 0 ≤ S % 1000000000 := Int.emod_nonneg _ (by decide)
      have g3 : 0 ≤ S / 1000000000 := by omega
      generalize S / 1000000000 = A at g1 g3 ⊢
      generalize S % 1000000000 = C at g1 g2 ⊢
      have hv2 : (Q : Int) * 1000000000 + r = (W : Int) := by omega
      have hg : (A + 4294967296 * (Q : Int)) * 1000000000 + C = y + 4294967296 * (W : Int) := by omega
      have k1 : ((A.toNat : Nat) : Int) = A := Int.toNat_of_nonneg g3
      have k2 : ((C.toNat : Nat) : Int) = C := Int.toNat_of_nonneg g2
      have k3 : ((y.toNat : Nat) : Int) = y := Int.toNat_of_nonneg hx.1
      apply Int.ofNat.inj
      change (((A.toNat + 4294967296 * Q) * 1000000000 + C.toNat : Nat) : Int) = ((y.toNat + 4294967296 * W : Nat) : Int)
      rw [Int.natCast_add, Int.natCast_mul, Int.natCast_add, Int.natCast_mul, Int.natCast_add, Int.natCast_mul, k1, k2, k3]
      exact hg
    have hlen : (m : Int) < ((List.replicate (m + 1) (0 : Int) ++ q).length : Int) := by simp; omega
    have f1 : (m : Int) ≥ 0 := by omega
    have f2 : (m : Int) < (x.length : Int) := by omega
    have h := ih (S / 1000000000 :: q) (S % 1000000000) (by omega) (by simp; omega) (Limbs.cons (by omega) (by omega) hQ) (by omega) (by omega) hval
    refine Ev.step (f := fun k => trammelref01_small.l0 k x 1000000000 (List.replicate m 0 ++ S / 1000000000 :: q) (S % 1000000000) ((m : Int) - 1)) (fun k => ?_) h
    simp only [trammelref01_small.l0]
    rw [hww]
    simp only [hidx, rd_nat, hq1, hq2, hor, ht, htm, hw1, hw2, Int.toNat_natCast, rep_set]
    rw [if_pos f1, if_pos f1, if_pos f2, if_neg (by decide), if_pos hlen]
theorem rshort_ev (x : List Int) (hL : Limbs x) (hl : x.length ≤ 1099511627776) : Ev (fun k => trammelref01_small.f k x 1000000000) (toL (val x / 1000000000), ((val x % 1000000000 : Nat) : Int)) := by
  have h := rshort_l0 x hL hl x.length [] 0 (Nat.le_refl _) (by simp) Limbs.nil (by decide) (by decide) (by rw [List.drop_length]; rfl)
  rw [List.append_nil] at h
  refine Ev.congr (fun k => ?_) h
  unfold trammelref01_small.f
  rw [w64 _ (by omega) (by omega), Int.toNat_natCast, if_pos (by omega), if_pos (by omega)]

end Go.Proofs.Ytgnonaokinfaeaa.PTexts
