/- Plain lemmas on the printed functions of ZintForms: what each comes to. -/
import Derived.Test.YtgnonaokinfaeaaFormsA4
import Derived.Test.YtgnonaokinfaeaaSteps
namespace Go.Proofs.Ytgnonaokinfaeaa.PForms
open Go.RowKit Go.Proofs.YtgnonaokinfaeaaW.PrintWords Go.Proofs.YtgnonaokinfaeaaW.PrintMore Go.Proofs.Ytgnonaokinfaeaa.Num
set_option linter.unusedVariables false

theorem own_ev (a : Bool) (l : List Int) (h : l.length * 4 ≤ 140737488351232) : trammellaw02_own.f a l = some (a, l) := by
  unfold trammellaw02_own.f
  rw [if_pos (by omega)]

theorem eq_l0 (n m : Bool) (l : List Int) (hl : l.length ≤ 4611686018427387904) : ∀ (d i : Nat), l.length - i = d → i ≤ l.length → Ev (fun k => trammellaw02_eq.l0 k (i : Int) n l m l) true := by
  intro d
  induction d with
  | zero =>
    intro i hd hi
    refine Ev.step (f := fun _ => some true) (fun k => ?_) (Ev.now _)
    simp only [trammellaw02_eq.l0]
    rw [if_neg (by omega)]
  | succ d ih =>
    intro i hd hi
    refine Ev.step (f := fun k => trammellaw02_eq.l0 k ((i + 1 : Nat) : Int) n l m l) (fun k => ?_) (ih (i + 1) (by omega) (by omega))
    simp only [trammellaw02_eq.l0]
    rw [if_pos (by omega), if_pos (by omega), if_pos (by omega), if_true, w64 _ (by omega) (by omega)]
    rfl
theorem eq_ev (n : Bool) (l : List Int) (hl : l.length ≤ 4611686018427387904) : Ev (fun k => trammellaw02_eq.f k n l n l) true := by
  have h0 : (n != n) = false := by simp
  have h1 : ((l.length : Int) != (l.length : Int)) = false := by simp
  refine Ev.congr (f := fun k => trammellaw02_eq.j0 k false n l n l) (fun k => ?_) ?_
  · unfold trammellaw02_eq.f
    rw [h0, h1]
    rfl
  · refine Ev.step (f := fun k => trammellaw02_eq.l0 k 0 n l n l) (fun k => ?_) (eq_l0 n n l hl l.length 0 (by omega) (by omega))
    simp only [trammellaw02_eq.j0]
    rfl

theorem made_l0 (a : Bool) (l : List Int) (hl : l.length ≤ 70368744177664) : ∀ m : Nat, m ≤ l.length → Ev (fun k => zint_made.l0 k a l (m : Int)) (a && decide (0 < (strip (l.take m)).length), strip (l.take m)) := by
  intro m
  induction m with
  | zero =>
    intro _
    refine Ev.step (f := fun _ => some (a && decide (0 < (strip (l.take 0)).length), strip (l.take 0))) (fun k => ?_) (Ev.now _)
    simp only [zint_made.l0]
    rw [if_neg (by omega), if_pos (show ((0 : Nat) : Int) = 0 from rfl)]
    simp [strip]
  | succ m ih =>
    intro hm
    have hw : wrap64 (((m + 1 : Nat) : Int) - 1) = (m : Int) := by rw [w64 _ (by omega) (by omega)]; omega
    rw [take_rd (show m < l.length by omega)]
    by_cases h0 : l.getD m 0 = 0
    · rw [h0, strip_snoc_zero]
      refine Ev.step (f := fun k => zint_made.l0 k a l (m : Int)) (fun k => ?_) (ih (by omega))
      simp only [zint_made.l0]
      rw [if_pos (by omega), hw, if_pos (by omega), if_pos (by omega), rd_nat, if_pos h0]
    · rw [strip_snoc_ne _ h0]
      refine Ev.step (f := fun _ => some (a, l.take (m + 1))) (fun k => ?_) ?_
      · simp only [zint_made.l0]
        rw [if_pos (by omega), hw, if_pos (by omega), if_pos (by omega), rd_nat, if_neg h0, if_neg (by omega), if_pos (by omega), if_pos (by omega), Int.toNat_natCast]
      · rw [← take_rd (show m < l.length by omega)]
        have : decide (0 < (l.take (m + 1)).length) = true := by simp; omega
        rw [this, Bool.and_true]
        exact Ev.now _
theorem made_ev (a : Bool) (l : List Int) (hl : l.length ≤ 70368744177664) : Ev (fun k => zint_made.f k a l) (a && decide (0 < (strip l).length), strip l) := by
  have := made_l0 a l hl l.length (Nat.le_refl _)
  rw [List.take_length] at this
  exact this
/-- zint.made: a number in its one form. -/
theorem made_rep (a : Bool) (l : List Int) (hL : Limbs l) (hl : l.length ≤ 70368744177664) : Ev (fun k => zint_made.f k a l) (rep (ival a l)) := by
  rw [rep_of a l hL]
  exact made_ev a l hl

theorem trim_ev : ∀ (n : Nat) (l : List Int), l.length = n → n ≤ 4611686018427387904 → Ev (fun k => nat_trim.f k l) (strip l) := by
  intro n
  induction n with
  | zero =>
    intro l hl _
    obtain rfl : l = [] := List.eq_nil_of_length_eq_zero hl
    refine Ev.step (g := fun k => nat_trim.l0 k []) (f := fun _ => some []) (fun k => ?_) (Ev.now _)
    simp [nat_trim.l0]
  | succ n ih =>
    intro l hl hn
    have hw : wrap64 ((l.length : Int) - 1) = (n : Int) := by rw [w64 _ (by omega) (by omega)]; omega
    have hs : l = l.take n ++ [l.getD n 0] := by
      have h1 := take_rd (l := l) (i := n) (by omega)
      rw [List.take_of_length_le (by omega)] at h1
      exact h1
    by_cases h0 : l.getD n 0 = 0
    · have h2 : strip l = strip (l.take n) := by
        rw [h0] at hs
        have h3 := congrArg strip hs
        rwa [strip_snoc_zero] at h3
      rw [h2]
      refine Ev.step (g := fun k => nat_trim.l0 k l) (f := fun k => nat_trim.l0 k (l.take n)) (fun k => ?_) (ih (l.take n) (by simp; omega) (by omega))
      simp only [nat_trim.l0]
      rw [if_pos (by omega), hw, if_pos (by omega), if_pos (by omega), rd_nat, if_pos h0, if_pos (by omega), Int.toNat_natCast]
    · have h2 : strip l = l := by
        rw [hs, strip_snoc_ne _ h0]
      rw [h2]
      refine Ev.step (g := fun k => nat_trim.l0 k l) (f := fun _ => some l) (fun k => ?_) (Ev.now _)
      simp only [nat_trim.l0]
      rw [if_pos (by omega), hw, if_pos (by omega), if_pos (by omega), rd_nat, if_neg h0]
theorem trim_toL (l : List Int) (hL : Limbs l) (hl : l.length ≤ 4611686018427387904) : Ev (fun k => nat_trim.f k l) (toL (val l)) := by
  rw [← strip_eq hL]
  exact trim_ev _ l rfl hl

/-- zint.Of. -/
theorem zof_ev (a : Int) (h0 : -9223372036854775808 ≤ a) (h1 : a ≤ 9223372036854775807) : Ev (fun k => zint_Of.f k a) (rep a) := by
  by_cases hc : a < 0
  · have e : IntKind.u64.wrap (-IntKind.u64.wrap a) = -a := by
      rw [IntKind.wrap_u64, IntKind.wrap_u64]
      omega
    obtain ⟨hL, hv⟩ := two_limbs (-a) (by omega) (by omega) true
    have h := made_rep true _ hL (by simp)
    rw [hv] at h
    have e2 : (if true = true then -(-a) else -a) = a := by simp
    rw [e2] at h
    refine Ev.congr (f := fun k => (zint_made.f k true [-a % 4294967296, -a / 4294967296 % 4294967296]).bind fun bt => some (bt.1, bt.2)) (fun k => ?_) (Ev.bind (f := fun _ bt => some (bt.1, bt.2)) h (Ev.now _))
    unfold zint_Of.f
    rw [if_pos hc, e, decide_eq_true hc]
  · have e : IntKind.u64.wrap a = a := u64w a (by omega) (by omega)
    obtain ⟨hL, hv⟩ := two_limbs a (by omega) (by omega) false
    have h := made_rep false _ hL (by simp)
    rw [hv] at h
    refine Ev.congr (f := fun k => (zint_made.f k false [a % 4294967296, a / 4294967296 % 4294967296]).bind fun bt => some (bt.1, bt.2)) (fun k => ?_) (Ev.bind (f := fun _ bt => some (bt.1, bt.2)) h (Ev.now _))
    unfold zint_Of.f
    rw [if_neg hc, e, decide_eq_false hc]

theorem bits_ev (l : List Int) (hL : Limbs l) (hl : l.length ≤ 70368744177664) : ∃ b : Int, Ev (fun k => nat_Bits.f k l) b ∧ (b = 0 ↔ val l = 0) := by
  have ht := trim_toL l hL (by omega)
  have hlen := toL_le_of_limbs hL
  rcases Nat.eq_zero_or_pos (val l) with hv | hv
  · rw [hv, toL_zero] at ht
    refine ⟨0, Ev.bind ht (Ev.congr (f := fun _ => some 0) (fun k => ?_) (Ev.now _)), by simp [hv]⟩
    simp
  · have hp : 0 < (toL (val l)).length := by
      rw [List.length_pos_iff, Ne, toL_nil]
      omega
    have hd := (limbs_toL (val l)).rd ((toL (val l)).length - 1)
    have hne : (toL (val l)).getD ((toL (val l)).length - 1) 0 ≠ 0 := by
      intro h0
      have h1 := take_rd (l := toL (val l)) (i := (toL (val l)).length - 1) (by omega)
      rw [show (toL (val l)).length - 1 + 1 = (toL (val l)).length by omega, List.take_length, h0] at h1
      have h2 := congrArg strip h1
      rw [strip_snoc_zero, strip_toL] at h2
      have h3 := congrArg List.length h2
      have h4 := strip_le ((toL (val l)).take ((toL (val l)).length - 1))
      simp at h4
      omega
    generalize hx : (toL (val l)).getD ((toL (val l)).length - 1) 0 = x at hd hne
    have hb := Go.Proofs.Any.bitLen_le32 x hd.1 (by omega)
    have hb0 : 0 < Lib.bitLen x.toNat := by
      unfold Lib.bitLen Lib.bitLenAux
      rw [if_neg (by omega)]
      omega
    have hw : wrap64 (((toL (val l)).length : Int) - 1) = (((toL (val l)).length - 1 : Nat) : Int) := by rw [w64 _ (by omega) (by omega)]; omega
    refine ⟨32 * (((toL (val l)).length : Int) - 1) + (Lib.bitLen x.toNat : Int), Ev.bind ht (Ev.congr (f := fun _ => some (32 * (((toL (val l)).length : Int) - 1) + (Lib.bitLen x.toNat : Int))) (fun k => ?_) (Ev.now _)), by omega⟩
    simp only [hw, rd_nat, hx]
    rw [if_neg (by omega), if_pos (by omega), if_pos (by omega)]
    unfold bits_Len32.f
    rw [if_pos (by omega), Option.bind_some, w64 (32 * (((toL (val l)).length - 1 : Nat) : Int)) (by omega) (by omega), w64 _ (by omega) (by omega)]
    congr 2
    omega
theorem zsign_ev (n : Bool) (l : List Int) (hL : Limbs l) (hl : l.length ≤ 70368744177664) : Ev (fun k => zint_Sign.f k n l) (sgn (ival n l)) := by
  obtain ⟨b, hb, h0⟩ := bits_ev l hL hl
  rw [sgn_ival]
  refine Ev.bind hb ?_
  by_cases hv : val l = 0
  · rw [if_pos hv]
    refine Ev.congr (f := fun _ => some 0) (fun k => ?_) (Ev.now _)
    simp only [if_pos (h0.2 hv)]
  · rw [if_neg hv]
    refine Ev.congr (f := fun _ => some (if n = true then -1 else 1)) (fun k => ?_) (Ev.now _)
    simp only [if_neg (fun h => hv (h0.1 h))]
    split <;> rfl

theorem nnorm_ev (l : List Int) (hl : l.length < 35184372088832) : Ev (fun k => nat_Norm.f k l) (strip l) := by
  have h := strip_le l
  refine Ev.bind (trim_ev _ l rfl (by omega)) (Ev.congr (f := fun _ => some (strip l)) (fun k => ?_) (Ev.now _))
  simp only [List.nil_append]
  rw [if_pos (by simp; omega)]
theorem or_sum (x y : Int) (hx : 0 ≤ x ∧ x < 4294967296) (hy : 0 ≤ y ∧ y < 4294967296) : Go.bits .or .u64 x (y * 4294967296) = x + 4294967296 * y := by
  obtain ⟨a, rfl⟩ := Int.eq_ofNat_of_zero_le hx.1
  obtain ⟨b, rfl⟩ := Int.eq_ofNat_of_zero_le hy.1
  rw [show ((b : Int) * 4294967296) = ((b * 4294967296 : Nat) : Int) by omega, Go.u64_or_nat _ _ (by omega) (by omega)]
  have h := Nat.two_pow_add_eq_or_of_lt (b := a) (i := 32) (by omega) b
  rw [Nat.or_comm, Nat.mul_comm b, show (4294967296 : Nat) = 2 ^ 32 from rfl, ← h]
  omega
/-- zint's word: a magnitude of at most two limbs. -/
theorem word_ev (l : List Int) (hL : Limbs l) (hl : l.length < 35184372088832) : Ev (fun k => zint_word.f k l) (if val l < 18446744073709551616 then ((val l : Int), true) else (0, false)) := by
  have h := nnorm_ev l hl
  rw [strip_eq hL] at h
  refine Ev.bind h ?_
  have hLt := limbs_toL (val l)
  have hv := val_toL (val l)
  have hle := toL_le_of_limbs hL
  generalize ht : toL (val l) = t at hLt hv hle
  have hw0 : wrap64 (32 * (0 : Int)) = 0 := by unfold wrap64; omega
  have hw1 : wrap64 (32 * (1 : Int)) = 32 := by unfold wrap64; omega
  match t, hLt, hv, hle, ht with
  | [], _, hv, _, _ =>
    simp [val] at hv
    rw [if_pos (by omega), ← hv]
    refine Ev.step (g := fun k => zint_word.l0 k 0 [] ((([] : List Int).length : Nat) : Int) 0) (f := fun _ => some (0, true)) (fun k => ?_) (Ev.now _)
    simp [zint_word.l0]
  | [x], hLt, hv, _, _ =>
    have hx := hLt.head
    simp [val] at hv
    rw [if_pos (by omega), ← hv]
    refine Ev.step (g := fun k => zint_word.l0 k 0 [x] ((([x] : List Int).length : Nat) : Int) 0) (f := fun k => zint_word.l0 k (x.toNat : Int) [x] 1 1) (fun k => ?_) (Ev.step (f := fun _ => some ((x.toNat : Int), true)) (fun k => ?_) (Ev.now _))
    · simp only [zint_word.l0, List.length_singleton, hw0]
      rw [if_pos (by decide), if_pos (by decide), if_pos (by decide), if_neg (by decide), if_pos (by decide)]
      have h1 : shl .u64 (IntKind.u64.wrap (rd [x] 0)) 0 = 0 * 4294967296 + x := by
        have h2 : rd [x] 0 = x := rfl
        rw [h2, u64w x (by omega) (by omega)]
        unfold shl
        simp
        rw [u64w x (by omega) (by omega)]
      rw [h1]
      have h3 := or_sum 0 0 (by omega) (by omega)
      have h4 : Go.bits .or .u64 0 (0 * 4294967296 + x) = x := by
        rw [Int.zero_mul, Int.zero_add]
        obtain ⟨a, rfl⟩ := Int.eq_ofNat_of_zero_le hx.1
        rw [show (0 : Int) = ((0 : Nat) : Int) from rfl, Go.u64_or_nat _ _ (by omega) (by omega), Nat.zero_or]
      rw [h4]
      have h5 : wrap64 ((0 : Int) + 1) = 1 := by unfold wrap64; omega
      rw [h5, Int.toNat_of_nonneg hx.1]
      rfl
    · simp only [zint_word.l0]
      rw [if_neg (by decide)]
  | [x, y], hLt, hv, _, _ =>
    have hx := hLt.head
    have hy := hLt.tail.head
    simp [val] at hv
    rw [if_pos (by omega)]
    refine Ev.step (g := fun k => zint_word.l0 k 0 [x, y] ((([x, y] : List Int).length : Nat) : Int) 0) (f := fun k => zint_word.l0 k x [x, y] 2 1) (fun k => ?_) (Ev.step (f := fun k => zint_word.l0 k (x + 4294967296 * y) [x, y] 2 2) (fun k => ?_) (Ev.step (f := fun _ => some ((val l : Int), true)) (fun k => ?_) (Ev.now _)))
    · simp only [zint_word.l0, List.length_cons, List.length_nil, hw0]
      rw [if_pos (by decide), if_pos (by decide), if_pos (by decide), if_neg (by decide), if_pos (by decide)]
      have h1 : shl .u64 (IntKind.u64.wrap (rd [x, y] 0)) 0 = x := by
        have h2 : rd [x, y] 0 = x := rfl
        rw [h2, u64w x (by omega) (by omega)]
        unfold shl
        simp
        rw [u64w x (by omega) (by omega)]
      have h4 : Go.bits .or .u64 0 x = x := by
        obtain ⟨a, rfl⟩ := Int.eq_ofNat_of_zero_le hx.1
        rw [show (0 : Int) = ((0 : Nat) : Int) from rfl, Go.u64_or_nat _ _ (by omega) (by omega), Nat.zero_or]
      have h5 : wrap64 ((0 : Int) + 1) = 1 := by unfold wrap64; omega
      rw [h1, h4, h5]
      rfl
    · simp only [zint_word.l0, List.length_cons, List.length_nil, hw1]
      rw [if_pos (by decide), if_pos (by decide), if_pos (by decide), if_neg (by decide), if_pos (by decide)]
      have h1 : shl .u64 (IntKind.u64.wrap (rd [x, y] 1)) 32 = y * 4294967296 := by
        have h2 : rd [x, y] 1 = y := rfl
        rw [h2, u64w y (by omega) (by omega)]
        have h6 : shl .u64 y 32 = IntKind.u64.wrap (y * 4294967296) := rfl
        rw [h6, u64w _ (by omega) (by omega)]
      have h5 : wrap64 ((1 : Int) + 1) = 2 := by unfold wrap64; omega
      rw [h1, or_sum x y hx hy, h5]
    · simp only [zint_word.l0]
      rw [if_neg (by decide)]
      congr 2
      omega
  | x :: y :: z :: t, hLt, hv, hle, ht =>
    have hx := hLt.head
    have hy := hLt.tail.head
    have hbig : 18446744073709551616 ≤ val l := by
      rcases Nat.lt_or_ge (val l) 18446744073709551616 with hlt | hge
      · have h8 := toL_len 2 (val l) (by simpa using hlt)
        rw [ht] at h8
        simp at h8
      · exact hge
    rw [if_neg (by omega)]
    have hn : (((x :: y :: z :: t : List Int).length : Nat) : Int) = (t.length : Int) + 3 := by simp; omega
    refine Ev.step (g := fun k => zint_word.l0 k 0 (x :: y :: z :: t) (((x :: y :: z :: t : List Int).length : Nat) : Int) 0) (f := fun k => zint_word.l0 k x (x :: y :: z :: t) ((t.length : Int) + 3) 1) (fun k => ?_) (Ev.step (f := fun k => zint_word.l0 k (x + 4294967296 * y) (x :: y :: z :: t) ((t.length : Int) + 3) 2) (fun k => ?_) (Ev.step (f := fun _ => some (0, false)) (fun k => ?_) (Ev.now _)))
    · simp only [zint_word.l0, hn, hw0]
      rw [if_pos (by omega), if_pos (by decide), if_pos (by omega), if_neg (by decide), if_pos (by decide)]
      have h1 : shl .u64 (IntKind.u64.wrap (rd (x :: y :: z :: t) 0)) 0 = x := by
        have h2 : rd (x :: y :: z :: t) 0 = x := rfl
        rw [h2, u64w x (by omega) (by omega)]
        unfold shl
        simp
        rw [u64w x (by omega) (by omega)]
      have h4 : Go.bits .or .u64 0 x = x := by
        obtain ⟨a, rfl⟩ := Int.eq_ofNat_of_zero_le hx.1
        rw [show (0 : Int) = ((0 : Nat) : Int) from rfl, Go.u64_or_nat _ _ (by omega) (by omega), Nat.zero_or]
      have h5 : wrap64 ((0 : Int) + 1) = 1 := by unfold wrap64; omega
      rw [h1, h4, h5]
    · simp only [zint_word.l0, hn, hw1]
      rw [if_pos (by omega), if_pos (by decide), if_pos (by omega), if_neg (by decide), if_pos (by decide)]
      have h1 : shl .u64 (IntKind.u64.wrap (rd (x :: y :: z :: t) 1)) 32 = y * 4294967296 := by
        have h2 : rd (x :: y :: z :: t) 1 = y := rfl
        rw [h2, u64w y (by omega) (by omega)]
        have h6 : shl .u64 y 32 = IntKind.u64.wrap (y * 4294967296) := rfl
        rw [h6, u64w _ (by omega) (by omega)]
      have h5 : wrap64 ((1 : Int) + 1) = 2 := by unfold wrap64; omega
      rw [h1, or_sum x y hx hy, h5]
    · simp only [zint_word.l0, hn]
      rw [if_pos (by omega), if_pos (by decide), if_pos (by omega), if_pos (by decide)]
/-- What Small tells. -/
def smallZ (z : Int) : Int × Bool := if -9223372036854775808 ≤ z ∧ z ≤ 9223372036854775807 then (z, true) else (0, false)
theorem zsmall_ev (n : Bool) (l : List Int) (hL : Limbs l) (hl : l.length < 35184372088832) : Ev (fun k => zint_Small.f k n l) (smallZ (ival n l)) := by
  refine Ev.bind (word_ev l hL hl) (Ev.bind (zsign_ev n l hL (by omega)) ?_)
  refine Ev.congr (f := fun _ => some (smallZ (ival n l))) (fun k => ?_) (Ev.now _)
  rw [sgn_ival]
  unfold smallZ ival
  by_cases hv : val l < 18446744073709551616
  · rw [if_pos hv]
    simp only [if_true]
    by_cases h0 : val l = 0
    · rw [if_pos h0, h0]
      cases n <;> simp [wrap64]
    · rw [if_neg h0]
      cases n with
      | true =>
        simp only [if_true]
        rw [if_pos (by omega)]
        by_cases hb : (val l : Int) > 9223372036854775808
        · rw [if_pos hb, if_neg (by omega)]
        · rw [if_neg hb, if_pos (by omega)]
          congr 2
          unfold wrap64
          omega
      | false =>
        simp only [Bool.false_eq_true, if_false]
        rw [if_neg (by omega)]
        by_cases hb : (val l : Int) > 9223372036854775807
        · rw [if_pos hb, if_neg (by omega)]
        · rw [if_neg hb, if_pos (by omega)]
          congr 2
          unfold wrap64
          omega
  · rw [if_neg hv]
    simp only [Bool.false_eq_true, if_false]
    rw [if_neg (by cases n <;> simp <;> omega)]

end Go.Proofs.Ytgnonaokinfaeaa.PForms
