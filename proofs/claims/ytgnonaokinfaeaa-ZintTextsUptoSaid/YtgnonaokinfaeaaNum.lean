/- Plain arithmetic on lists of limbs: what a list of limbs is worth, its one form, sums, differences, comparisons. No Go, no memory. -/
import Derived.IntWalk
import Derived.RowKit
namespace Go.Proofs.Ytgnonaokinfaeaa.Num

/-- Limbs of 32 bits. -/
def Limbs (l : List Int) : Prop := ∀ x ∈ l, 0 ≤ x ∧ x < 4294967296

theorem Limbs.nil : Limbs [] := fun x hx => by cases hx
theorem Limbs.cons {x : Int} {l : List Int} (h0 : 0 ≤ x) (h1 : x < 4294967296) (h : Limbs l) : Limbs (x :: l) := fun y hy => by
  rcases List.mem_cons.1 hy with e | e
  · subst e
    exact ⟨h0, h1⟩
  · exact h y e
theorem Limbs.head {x : Int} {l : List Int} (h : Limbs (x :: l)) : 0 ≤ x ∧ x < 4294967296 := h x List.mem_cons_self
theorem Limbs.tail {x : Int} {l : List Int} (h : Limbs (x :: l)) : Limbs l := fun y hy => h y (List.mem_cons_of_mem _ hy)
theorem Limbs.append {a b : List Int} (ha : Limbs a) (hb : Limbs b) : Limbs (a ++ b) := fun y hy => by
  rcases List.mem_append.1 hy with h | h
  · exact ha y h
  · exact hb y h
theorem Limbs.left {a b : List Int} (h : Limbs (a ++ b)) : Limbs a := fun y hy => h y (List.mem_append_left _ hy)
theorem Limbs.right {a b : List Int} (h : Limbs (a ++ b)) : Limbs b := fun y hy => h y (List.mem_append_right _ hy)
theorem Limbs.take {a : List Int} (n : Nat) (h : Limbs a) : Limbs (a.take n) := fun y hy => h y (List.mem_of_mem_take hy)
theorem Limbs.drop {a : List Int} (n : Nat) (h : Limbs a) : Limbs (a.drop n) := fun y hy => h y (List.mem_of_mem_drop hy)
theorem Limbs.getD {a : List Int} (h : Limbs a) (i : Nat) : 0 ≤ a.getD i 0 ∧ a.getD i 0 < 4294967296 := by
  rw [List.getD_eq_getElem?_getD]
  cases hi : a[i]? with
  | none => exact ⟨Int.le_refl _, by decide⟩
  | some x => exact h x (List.mem_of_getElem? hi)

/-- What a list of limbs is worth. -/
def val : List Int → Nat
  | [] => 0
  | x :: l => x.toNat + 4294967296 * val l

theorem val_append : ∀ (a b : List Int), val (a ++ b) = val a + 4294967296 ^ a.length * val b
  | [], b => by simp [val]
  | x :: a, b => by
    simp only [List.cons_append, val, List.length_cons, val_append a b, Nat.pow_succ]
    rw [Nat.mul_add, Nat.mul_comm (4294967296 ^ a.length) 4294967296, Nat.mul_assoc]
    omega
theorem val_lt : ∀ {l : List Int}, Limbs l → val l < 4294967296 ^ l.length
  | [], _ => by simp [val]
  | x :: l, h => by
    have h1 := val_lt h.tail
    have h2 := h.head
    simp only [val, List.length_cons, Nat.pow_succ]
    omega
theorem val_zeros : ∀ n : Nat, val (List.replicate n 0) = 0
  | 0 => rfl
  | n + 1 => by simp [List.replicate_succ, val, val_zeros n]

/-- The limbs of a number, in the one form. -/
def toL (n : Nat) : List Int := if n = 0 then [] else ((n % 4294967296 : Nat) : Int) :: toL (n / 4294967296)
termination_by n
decreasing_by omega

theorem toL_zero : toL 0 = [] := by rw [toL]; rfl
theorem toL_pos {n : Nat} (h : 0 < n) : toL n = ((n % 4294967296 : Nat) : Int) :: toL (n / 4294967296) := by
  rw [toL, if_neg (by omega)]
theorem toL_nil {n : Nat} : toL n = [] ↔ n = 0 := by
  rcases Nat.eq_zero_or_pos n with h | h
  · subst h
    simp [toL_zero]
  · rw [toL_pos h]
    simp
    omega
theorem val_toL (n : Nat) : val (toL n) = n := by
  induction n using Nat.strongRecOn with
  | _ n ih =>
    rcases Nat.eq_zero_or_pos n with h | h
    · subst h
      simp [toL_zero, val]
    · rw [toL_pos h]
      simp only [val]
      rw [ih (n / 4294967296) (by omega)]
      omega
theorem limbs_toL (n : Nat) : Limbs (toL n) := by
  induction n using Nat.strongRecOn with
  | _ n ih =>
    rcases Nat.eq_zero_or_pos n with h | h
    · subst h
      rw [toL_zero]
      exact Limbs.nil
    · rw [toL_pos h]
      exact Limbs.cons (by omega) (by omega) (ih (n / 4294967296) (by omega))
theorem toL_len : ∀ (m n : Nat), n < 4294967296 ^ m → (toL n).length ≤ m
  | 0, n, h => by
    have : n = 0 := by simp at h; exact h
    subst this
    simp [toL_zero]
  | m + 1, n, h => by
    rcases Nat.eq_zero_or_pos n with h0 | h0
    · subst h0
      simp [toL_zero]
    · rw [toL_pos h0]
      have h1 : n / 4294967296 < 4294967296 ^ m := by
        rw [Nat.div_lt_iff_lt_mul (by decide)]
        rw [Nat.pow_succ] at h
        exact h
      have := toL_len m (n / 4294967296) h1
      simp
      exact this
theorem toL_inj {m n : Nat} (h : toL m = toL n) : m = n := by
  have := congrArg val h
  rwa [val_toL, val_toL] at this

/-- Without noughts at the end. -/
def strip : List Int → List Int
  | [] => []
  | x :: l => if x = 0 ∧ strip l = [] then [] else x :: strip l

theorem strip_eq : ∀ {l : List Int}, Limbs l → strip l = toL (val l)
  | [], _ => by simp [strip, val, toL_zero]
  | x :: l, h => by
    have h1 := strip_eq h.tail
    have h2 := h.head
    simp only [strip, val]
    by_cases hx : x = 0 ∧ strip l = []
    · rw [if_pos hx]
      rw [h1, toL_nil] at hx
      rw [hx.1, hx.2]
      simp [toL_zero]
    · rw [if_neg hx]
      have hp : 0 < x.toNat + 4294967296 * val l := by
        rcases Nat.eq_zero_or_pos (val l) with h3 | h3
        · have : strip l = [] := by rw [h1, h3, toL_zero]
          have : ¬ x = 0 := fun e => hx ⟨e, this⟩
          omega
        · omega
      rw [toL_pos hp, h1]
      congr 1
      · omega
      · congr 1
        omega
theorem strip_le : ∀ l : List Int, (strip l).length ≤ l.length
  | [] => by simp [strip]
  | x :: l => by
    have := strip_le l
    simp only [strip]
    split
    · simp
    · simp
      exact this
theorem strip_snoc_zero : ∀ l : List Int, strip (l ++ [0]) = strip l
  | [] => by simp [strip]
  | x :: l => by simp only [List.cons_append, strip, strip_snoc_zero l]
theorem strip_snoc_ne : ∀ (l : List Int) {x : Int}, x ≠ 0 → strip (l ++ [x]) = l ++ [x]
  | [], x, h => by simp [strip, h]
  | y :: l, x, h => by
    simp only [List.cons_append, strip, strip_snoc_ne l h]
    rw [if_neg (by simp)]
theorem strip_toL (n : Nat) : strip (toL n) = toL n := by rw [strip_eq (limbs_toL n), val_toL]

theorem toL_le_of_limbs {l : List Int} (h : Limbs l) : (toL (val l)).length ≤ l.length := by
  rw [← strip_eq h]
  exact strip_le l
theorem toL_mono {m n : Nat} (h : m ≤ n) : (toL m).length ≤ (toL n).length := by
  refine toL_len _ _ (Nat.lt_of_le_of_lt h ?_)
  have := val_lt (limbs_toL n)
  rwa [val_toL] at this

/-- The first n limbs, noughts behind the last. -/
def pad : Nat → List Int → List Int
  | 0, _ => []
  | n + 1, l => l.headD 0 :: pad n l.tail

theorem pad_length : ∀ (n : Nat) (l : List Int), (pad n l).length = n
  | 0, _ => rfl
  | n + 1, l => by simp [pad, pad_length n]
theorem pad_limbs : ∀ (n : Nat) {l : List Int}, Limbs l → Limbs (pad n l)
  | 0, _, _ => Limbs.nil
  | n + 1, [], _ => Limbs.cons (by decide) (by decide) (pad_limbs n Limbs.nil)
  | n + 1, x :: l, h => Limbs.cons h.head.1 h.head.2 (pad_limbs n h.tail)
theorem val_pad : ∀ (n : Nat) (l : List Int), l.length ≤ n → val (pad n l) = val l
  | 0, l, h => by
    have : l = [] := List.eq_nil_of_length_eq_zero (by omega)
    subst this
    rfl
  | n + 1, [], _ => by simp [pad, val, val_pad n [] (by simp)]
  | n + 1, x :: l, h => by
    simp only [pad, val, List.headD_cons, List.tail_cons]
    rw [val_pad n l (by simpa using h)]
theorem pad_self : ∀ (l : List Int), pad l.length l = l
  | [] => rfl
  | x :: l => by simp [pad, pad_self l]
theorem pad_getElem : ∀ (n : Nat) (l : List Int) (i : Nat), i < n → (pad n l)[i]? = some (l.getD i 0)
  | 0, _, _, h => by omega
  | n + 1, [], 0, _ => by simp [pad]
  | n + 1, x :: l, 0, _ => by simp [pad]
  | n + 1, [], i + 1, h => by
    simp only [pad, List.getElem?_cons_succ, List.tail_nil]
    rw [pad_getElem n [] i (by omega)]
    simp
  | n + 1, x :: l, i + 1, h => by
    simp only [pad, List.getElem?_cons_succ, List.tail_cons]
    rw [pad_getElem n l i (by omega)]
    simp
theorem val_pad_lt : ∀ (n : Nat) {l : List Int}, Limbs l → val l < 4294967296 ^ n → val (pad n l) = val l
  | 0, l, _, h => by
    simp at h
    simp [pad, val, h]
  | n + 1, [], _, _ => val_pad _ _ (by simp)
  | n + 1, x :: l, hl, h => by
    have h1 := hl.head
    simp only [pad, val, List.headD_cons, List.tail_cons] at h ⊢
    rw [val_pad_lt n hl.tail (by rw [Nat.pow_succ] at h; omega)]

/-! Sums -/
def addE : Int → List Int → List Int → List Int
  | c, x :: a, y :: b => (c + x + y) % 4294967296 :: addE ((c + x + y) / 4294967296) a b
  | c, _, _ => [c]

theorem addE_val : ∀ (a b : List Int) (c : Int), a.length = b.length → Limbs a → Limbs b → 0 ≤ c → c ≤ 1 → val (addE c a b) = c.toNat + val a + val b ∧ Limbs (addE c a b)
  | [], [], c, _, _, _, h0, h1 => ⟨by simp [addE, val], Limbs.cons h0 (by omega) Limbs.nil⟩
  | x :: a, y :: b, c, hl, ha, hb, h0, h1 => by
    have hx := ha.head
    have hy := hb.head
    obtain ⟨ih1, ih2⟩ := addE_val a b ((c + x + y) / 4294967296) (by simpa using hl) ha.tail hb.tail (by omega) (by omega)
    refine ⟨?_, Limbs.cons (by omega) (by omega) ih2⟩
    simp only [addE, val, ih1]
    omega
  | [], _ :: _, _, hl, _, _, _, _ => by simp at hl
  | _ :: _, [], _, hl, _, _, _, _ => by simp at hl
theorem addE_length : ∀ (a b : List Int) (c : Int), a.length = b.length → (addE c a b).length = a.length + 1
  | [], [], _, _ => rfl
  | x :: a, y :: b, c, h => by simp [addE, addE_length a b _ (by simpa using h)]
  | [], _ :: _, _, h => by simp at h
  | _ :: _, [], _, h => by simp at h

/-! Differences -/
def subE : Int → List Int → List Int → List Int
  | c, x :: a, y :: b => (x - c - y) % 4294967296 :: subE (if x - c - y < 0 then 1 else 0) a b
  | _, _, _ => []

theorem subE_val : ∀ (a b : List Int) (c : Int), a.length = b.length → Limbs a → Limbs b → 0 ≤ c → c ≤ 1 → c.toNat + val b ≤ val a → val (subE c a b) + val b + c.toNat = val a ∧ Limbs (subE c a b)
  | [], [], c, _, _, _, h0, h1, h => by
    simp [val] at h
    refine ⟨?_, Limbs.nil⟩
    simp [subE, val]
    omega
  | x :: a, y :: b, c, hl, ha, hb, h0, h1, h => by
    have hx := ha.head
    have hy := hb.head
    simp only [val] at h
    have hle : (if x - c - y < 0 then (1 : Int) else 0).toNat + val b ≤ val a := by split <;> omega
    obtain ⟨ih1, ih2⟩ := subE_val a b (if x - c - y < 0 then 1 else 0) (by simpa using hl) ha.tail hb.tail (by split <;> omega) (by split <;> omega) hle
    refine ⟨?_, Limbs.cons (by omega) (by omega) ih2⟩
    simp only [subE, val]
    split at ih1 <;> rename_i hc
    · rw [if_pos hc]
      omega
    · rw [if_neg hc]
      omega
  | [], _ :: _, _, hl, _, _, _, _, _ => by simp at hl
  | _ :: _, [], _, hl, _, _, _, _, _ => by simp at hl
theorem subE_length : ∀ (a b : List Int) (c : Int), a.length = b.length → (subE c a b).length = a.length
  | [], [], _, _ => rfl
  | x :: a, y :: b, c, h => by simp [subE, subE_length a b _ (by simpa using h)]
  | [], _ :: _, _, h => by simp at h
  | _ :: _, [], _, h => by simp at h

/-! Comparisons -/
def cmpN (m n : Nat) : Int := if m < n then -1 else if n < m then 1 else 0
theorem cmpN_self (m : Nat) : cmpN m m = 0 := by simp [cmpN]
theorem cmpN_lt {m n : Nat} (h : m < n) : cmpN m n = -1 := by simp [cmpN, h]
theorem cmpN_gt {m n : Nat} (h : n < m) : cmpN m n = 1 := by
  unfold cmpN
  rw [if_neg (by omega), if_pos h]
theorem cmpN_neg {m n : Nat} : cmpN m n < 0 ↔ m < n := by
  unfold cmpN
  split
  · simp [*]
  · split <;> simp <;> omega

theorem val_snoc_lt {a b : List Int} {x y : Int} (hl : a.length = b.length) (ha : Limbs a) (hx : 0 ≤ x) (hxy : x < y) : val (a ++ [x]) < val (b ++ [y]) := by
  rw [val_append, val_append, hl]
  have h1 := val_lt ha
  rw [hl] at h1
  simp only [val, Nat.mul_zero, Nat.add_zero]
  have h2 : 4294967296 ^ b.length * (x.toNat + 1) ≤ 4294967296 ^ b.length * y.toNat := Nat.mul_le_mul_left _ (by omega)
  rw [Nat.mul_add, Nat.mul_one] at h2
  omega
theorem val_snoc_same {a b : List Int} {x : Int} (hl : a.length = b.length) : val (a ++ [x]) < val (b ++ [x]) ↔ val a < val b := by
  rw [val_append, val_append, hl]
  omega
theorem cmpN_snoc_same {a b : List Int} {x : Int} (hl : a.length = b.length) : cmpN (val (a ++ [x])) (val (b ++ [x])) = cmpN (val a) (val b) := by
  unfold cmpN
  have h1 := val_snoc_same (x := x) hl
  have h2 := val_snoc_same (x := x) hl.symm
  by_cases c1 : val a < val b
  · rw [if_pos c1, if_pos (h1.2 c1)]
  · rw [if_neg c1, if_neg (fun h => c1 (h1.1 h))]
    by_cases c2 : val b < val a
    · rw [if_pos c2, if_pos (h2.2 c2)]
    · rw [if_neg c2, if_neg (fun h => c2 (h2.1 h))]
theorem toL_len_lt {m n : Nat} (h : (toL m).length < (toL n).length) : m < n := by
  rcases Nat.lt_or_ge m n with h1 | h1
  · exact h1
  · have := toL_mono h1
    omega

theorem add_len {a b : List Int} (ha : Limbs a) (hb : Limbs b) : (toL (val a + val b)).length ≤ max a.length b.length + 1 := by
  have h1 := val_lt ha
  have h2 := val_lt hb
  have h3 : 4294967296 ^ a.length ≤ 4294967296 ^ (max a.length b.length) := Nat.pow_le_pow_right (by decide) (Nat.le_max_left _ _)
  have h4 : 4294967296 ^ b.length ≤ 4294967296 ^ (max a.length b.length) := Nat.pow_le_pow_right (by decide) (Nat.le_max_right _ _)
  refine toL_len _ _ ?_
  rw [Nat.pow_succ]
  omega

theorem len_of_mul {n i m : Nat} (h : n ≤ i * 4294967296 ^ m) (hi : i < 18446744073709551616) : (toL n).length ≤ m + 2 := by
  have e : 4294967296 ^ (m + 2) = 18446744073709551616 * 4294967296 ^ m := by rw [Nat.pow_add, Nat.mul_comm]
  refine toL_len _ _ ?_
  rw [e]
  exact Nat.lt_of_le_of_lt h (Nat.mul_lt_mul_of_pos_right hi (Nat.pow_pos (by decide)))

/-! Signs: a whole number in its one form -/
def rep (z : Int) : Bool × List Int := (decide (z < 0), toL z.natAbs)
def ival (neg : Bool) (l : List Int) : Int := if neg then -(val l : Int) else (val l : Int)
theorem rep_of (neg : Bool) (l : List Int) (hl : Limbs l) : rep (ival neg l) = (neg && decide (0 < (strip l).length), strip l) := by
  have h := strip_eq hl
  have hp : 0 < (strip l).length ↔ 0 < val l := by
    rw [h, List.length_pos_iff]
    rw [Ne, toL_nil]
    omega
  unfold rep ival
  rw [h]
  rw [h] at hp
  cases neg with
  | false => simp
  | true =>
    simp only [if_true, Bool.true_and, Int.natAbs_neg, Int.natAbs_natCast, Prod.mk.injEq, and_true]
    exact decide_eq_decide.2 (by omega)
theorem ival_rep (z : Int) : ival (rep z).1 (rep z).2 = z := by
  unfold rep ival
  simp only [val_toL]
  by_cases h : z < 0
  · simp [h]
    omega
  · simp [h]
    omega
theorem rep_limbs (z : Int) : Limbs (rep z).2 := limbs_toL _

theorem two_limbs (u : Int) (h0 : 0 ≤ u) (h1 : u < 18446744073709551616) (n : Bool) : Limbs [u % 4294967296, (u / 4294967296) % 4294967296] ∧ ival n [u % 4294967296, (u / 4294967296) % 4294967296] = if n then -u else u := by
  refine ⟨Limbs.cons (by omega) (by omega) (Limbs.cons (by omega) (by omega) Limbs.nil), ?_⟩
  unfold ival
  cases n <;> simp [val] <;> omega

theorem ival_same (n : Bool) (a b : List Int) : ival n (toL (val a + val b)) = ival n a + ival n b := by
  unfold ival
  rw [val_toL]
  cases n <;> simp <;> omega
/-- The sign of a whole number. -/
def sgn (z : Int) : Int := if z < 0 then -1 else if z = 0 then 0 else 1
theorem val_zero_of_strip {l : List Int} (h : Limbs l) : strip l = [] ↔ val l = 0 := by rw [strip_eq h, toL_nil]
theorem sgn_ival (n : Bool) (l : List Int) : sgn (ival n l) = if val l = 0 then 0 else if n = true then -1 else 1 := by
  unfold sgn ival
  by_cases h : val l = 0
  · rw [if_pos h, h]
    cases n <;> rfl
  · rw [if_neg h]
    cases n with
    | true =>
      rw [if_pos (by simp; omega), if_pos rfl]
    | false =>
      rw [if_neg (by simp), if_neg (by simp; omega), if_neg (by decide)]
theorem val_drop_le {l : List Int} (i : Nat) : val (l.drop i) ≤ val l := by
  rcases Nat.lt_or_ge i l.length with h | h
  · have h1 : val l = val (l.take i ++ l.drop i) := by rw [List.take_append_drop]
    rw [val_append] at h1
    have h2 : val (l.drop i) ≤ 4294967296 ^ (l.take i).length * val (l.drop i) := Nat.le_mul_of_pos_left _ (Nat.pow_pos (by decide))
    omega
  · rw [List.drop_eq_nil_of_le h]
    exact Nat.zero_le _

end Go.Proofs.Ytgnonaokinfaeaa.Num
