/- Plain arithmetic on lists of limbs: products, row by row. No Go, no memory. -/
import Derived.Test.YtgnonaokinfaeaaNum
namespace Go.Proofs.Ytgnonaokinfaeaa.Num

theorem mul_bound {x y : Int} (hx : 0 ≤ x ∧ x < 4294967296) (hy : 0 ≤ y ∧ y < 4294967296) : 0 ≤ x * y ∧ x * y ≤ 18446744065119617025 := by
  refine ⟨Int.mul_nonneg hx.1 hy.1, ?_⟩
  have h1 : x * y ≤ 4294967295 * y := Int.mul_le_mul_of_nonneg_right (by omega) hy.1
  omega

/-- One limb times all, on top of what stands there. -/
def mulRow (x : Int) : Int → List Int → List Int → List Int
  | c, y :: ys, o :: os => (c + x * y + o) % 4294967296 :: mulRow x ((c + x * y + o) / 4294967296) ys os
  | c, _, _ => [c]
theorem mulRow_length (x : Int) : ∀ (ys os : List Int) (c : Int), ys.length = os.length → (mulRow x c ys os).length = ys.length + 1
  | [], [], _, _ => rfl
  | y :: ys, o :: os, c, h => by simp [mulRow, mulRow_length x ys os _ (by simpa using h)]
  | [], _ :: _, _, h => by simp at h
  | _ :: _, [], _, h => by simp at h
theorem mulRow_val (x : Int) (hx : 0 ≤ x ∧ x < 4294967296) : ∀ (ys os : List Int) (c : Int), ys.length = os.length → Limbs ys → Limbs os → 0 ≤ c → c < 4294967296 → val (mulRow x c ys os) = c.toNat + x.toNat * val ys + val os ∧ Limbs (mulRow x c ys os)
  | [], [], c, _, _, _, h0, h1 => ⟨by simp [mulRow, val], Limbs.cons h0 h1 Limbs.nil⟩
  | y :: ys, o :: os, c, hl, hy, ho, h0, h1 => by
    have h2 := hy.head
    have h3 := ho.head
    have h4 := mul_bound hx h2
    obtain ⟨ih1, ih2⟩ := mulRow_val x hx ys os ((c + x * y + o) / 4294967296) (by simpa using hl) hy.tail ho.tail (by omega) (by omega)
    refine ⟨?_, Limbs.cons (by omega) (by omega) ih2⟩
    have e : (x * y).toNat = x.toNat * y.toNat := Int.toNat_mul hx.1 h2.1
    have e2 : x.toNat * (y.toNat + 4294967296 * val ys) = x.toNat * y.toNat + 4294967296 * (x.toNat * val ys) := by
      rw [Nat.mul_add, Nat.mul_left_comm]
    simp only [mulRow, val, ih1, e2]
    rw [← e]
    generalize x.toNat * val ys = A
    generalize x * y = p at h4 ⊢
    omega
  | [], _ :: _, _, hl, _, _, _, _ => by simp at hl
  | _ :: _, [], _, hl, _, _, _, _ => by simp at hl

/-- All limbs times all. -/
def mulAll (b : List Int) : List Int → List Int → List Int
  | [], s => s
  | x :: xs, s => (mulRow x 0 b s).headD 0 :: mulAll b xs (mulRow x 0 b s).tail
theorem mulAll_val (b : List Int) (hb : Limbs b) : ∀ (xs s : List Int), s.length = b.length → Limbs xs → Limbs s → val (mulAll b xs s) = val xs * val b + val s ∧ Limbs (mulAll b xs s)
  | [], s, _, _, hs => ⟨by simp [mulAll, val], hs⟩
  | x :: xs, s, hl, hx, hs => by
    obtain ⟨h1, h2⟩ := mulRow_val x hx.head b s 0 hl.symm hb hs (by decide) (by decide)
    have h3 := mulRow_length x b s 0 hl.symm
    simp only [mulAll]
    match hr : mulRow x 0 b s, h1, h2, h3 with
    | r :: rt, h1, h2, h3 =>
      obtain ⟨ih1, ih2⟩ := mulAll_val b hb xs rt (by simpa using h3) hx.tail h2.tail
      refine ⟨?_, Limbs.cons h2.head.1 h2.head.2 ih2⟩
      simp only [val] at h1
      simp only [List.headD_cons, List.tail_cons, val, ih1]
      have e : (x.toNat + 4294967296 * val xs) * val b = x.toNat * val b + 4294967296 * (val xs * val b) := by
        rw [Nat.add_mul, Nat.mul_assoc]
      rw [e]
      simp at h1
      generalize val xs * val b = A at ih1 ⊢
      generalize x.toNat * val b = C at h1 ⊢
      omega
    | [], _, _, h3 => simp at h3
theorem ival_mul (n m : Bool) (a b : List Int) : ival (n != m) (toL (val a * val b)) = ival n a * ival m b := by
  unfold ival
  rw [val_toL]
  cases n <;> cases m <;> simp [Int.neg_mul, Int.mul_neg]
theorem mul_len {a b : List Int} (ha : Limbs a) (hb : Limbs b) : (toL (val a * val b)).length ≤ a.length + b.length := by
  refine toL_len _ _ ?_
  rw [Nat.pow_add]
  exact Nat.mul_lt_mul'' (val_lt ha) (val_lt hb)
end Go.Proofs.Ytgnonaokinfaeaa.Num
