/- Plain lemmas on the printed functions of ZintTotals: what each comes to. -/
import Derived.Test.YtgnonaokinfaeaaTotalsB3
import Derived.Test.YtgnonaokinfaeaaSteps
namespace Go.Proofs.Ytgnonaokinfaeaa.PTotals
open Go.RowKit Go.Proofs.YtgnonaokinfaeaaW.PrintWords Go.Proofs.Ytgnonaokinfaeaa.Num
set_option linter.unusedVariables false

theorem two_limbs (u : Int) (h0 : 0 ≤ u) (h1 : u < 18446744073709551616) (n : Bool) : Limbs [u % 4294967296, (u / 4294967296) % 4294967296] ∧ ival n [u % 4294967296, (u / 4294967296) % 4294967296] = if n then -u else u := by
  refine ⟨Limbs.cons (by omega) (by omega) (Limbs.cons (by omega) (by omega) Limbs.nil), ?_⟩
  unfold ival
  cases n <;> simp [val] <;> omega
/-- The document's Of. -/
theorem rof_ev (a : Int) (h0 : -9223372036854775808 ≤ a) (h1 : a ≤ 9223372036854775807) : Ev (fun k => trammelref02_Of.f k a) (rep a) := by
  by_cases hc : a < 0
  · have e : IntKind.u64.wrap (-IntKind.u64.wrap a) = -a := by
      rw [IntKind.wrap_u64, IntKind.wrap_u64]
      omega
    obtain ⟨hL, hv⟩ := two_limbs (-a) (by omega) (by omega) true
    have h := rmade_rep true _ hL (by simp)
    rw [hv] at h
    have e2 : (if true = true then -(-a) else -a) = a := by simp
    rw [e2] at h
    refine Ev.congr (f := fun k => (trammelref02_made.f k true [-a % 4294967296, -a / 4294967296 % 4294967296]).bind fun bt => some (bt.1, bt.2)) (fun k => ?_) (Ev.bind (f := fun _ bt => some (bt.1, bt.2)) h (Ev.now _))
    unfold trammelref02_Of.f
    rw [if_pos hc, e, decide_eq_true hc]
  · have e : IntKind.u64.wrap a = a := u64w a (by omega) (by omega)
    obtain ⟨hL, hv⟩ := two_limbs a (by omega) (by omega) false
    have h := rmade_rep false _ hL (by simp)
    rw [hv] at h
    refine Ev.congr (f := fun k => (trammelref02_made.f k false [a % 4294967296, a / 4294967296 % 4294967296]).bind fun bt => some (bt.1, bt.2)) (fun k => ?_) (Ev.bind (f := fun _ bt => some (bt.1, bt.2)) h (Ev.now _))
    unfold trammelref02_Of.f
    rw [if_neg hc, e, decide_eq_false hc]

def isum : List S25 → Int
  | [] => 0
  | x :: l => ival x.f0 x.f1 + isum l
theorem getD_drop {xs : List S25} {i : Nat} (h : i < xs.length) : xs.drop i = rd_T25 xs (i : Int) :: xs.drop (i + 1) := by
  rw [List.drop_eq_getElem_cons h, rd_T25, List.getD_eq_getElem?_getD, Int.toNat_natCast, List.getElem?_eq_getElem h]
  rfl
theorem getD_take {xs : List S25} {i : Nat} (h : i < xs.length) : xs.take (i + 1) = xs.take i ++ [rd_T25 xs (i : Int)] := by
  rw [List.take_succ_eq_append_getElem h, rd_T25, List.getD_eq_getElem?_getD, Int.toNat_natCast, List.getElem?_eq_getElem h]
  rfl
theorem getD_mem {xs : List S25} {i : Nat} (h : i < xs.length) : rd_T25 xs (i : Int) ∈ xs := by
  rw [rd_T25, List.getD_eq_getElem?_getD, Int.toNat_natCast, List.getElem?_eq_getElem h]
  exact List.getElem_mem h
theorem ival_le {n : Bool} {l : List Int} {L : Nat} (hL : Limbs l) (hl : l.length ≤ L) : (ival n l).natAbs ≤ 4294967296 ^ L := by
  have h1 := val_lt hL
  have h2 : 4294967296 ^ l.length ≤ 4294967296 ^ L := Nat.pow_le_pow_right (by decide) hl
  unfold ival
  generalize 4294967296 ^ l.length = A at h1 h2
  generalize 4294967296 ^ L = B at h2 ⊢
  cases n <;> simp <;> omega
theorem part_len {s : Int} {i L : Nat} (h : s.natAbs ≤ i * 4294967296 ^ L) (hi : i < 4294967296) : (rep s).2.length ≤ L + 1 := by
  refine toL_len _ _ (Nat.lt_of_le_of_lt h ?_)
  rw [Nat.pow_succ, Nat.mul_comm (4294967296 ^ L)]
  exact Nat.mul_lt_mul_of_pos_right hi (Nat.pow_pos (by decide))
theorem part_next {s t : Int} {i P : Nat} (h : s.natAbs ≤ i * P) (ht : t.natAbs ≤ P) : (s + t).natAbs ≤ (i + 1) * P := by
  rw [Nat.add_mul, Nat.one_mul]
  have := Int.natAbs_add_le s t
  omega

theorem total_l0 (xs : List S25) (L : Nat) (hL : L ≤ 35184372087808) (hn : xs.length ≤ 4398046511104) (hx : ∀ x ∈ xs, Limbs x.f1 ∧ x.f1.length ≤ L) : ∀ (j i : Nat) (s : Int), xs.length - i = j → i ≤ xs.length → s.natAbs ≤ i * 4294967296 ^ (L + 1) →
    Ev (fun k => zint_total.l0 k xs (xs.length : Int) (i : Int) (rep s).1 (rep s).2) (rep (s + isum (xs.drop i))) := by
  intro j
  induction j with
  | zero =>
    intro i s hj hi hs
    rw [List.drop_eq_nil_of_le (by omega)]
    refine Ev.step (f := fun _ => some ((rep s).1, (rep s).2)) (fun k => ?_) ?_
    · simp only [zint_total.l0]
      rw [if_neg (by omega)]
    · simp only [isum, Int.add_zero]
      exact Ev.now _
  | succ j ih =>
    intro i s hj hi hs
    have hlt : i < xs.length := by omega
    obtain ⟨hLx, hlx⟩ := hx _ (getD_mem hlt)
    have hlen : (rep s).2.length ≤ L + 3 := len_of_mul hs (by omega)
    have ha := zadd_ev (rep s).1 (rd_T25 xs (i : Int)).f0 (rep s).2 (rd_T25 xs (i : Int)).f1 (rep_limbs s) hLx (by omega) (by omega)
    rw [ival_rep] at ha
    have hb := ih (i + 1) (s + ival (rd_T25 xs (i : Int)).f0 (rd_T25 xs (i : Int)).f1) (by omega) (by omega) (part_next hs (ival_le hLx (by omega)))
    rw [getD_drop hlt, isum, ← Int.add_assoc]
    refine Ev.step (f := fun k => (zint_Add.f k (rep s).1 (rep s).2 (rd_T25 xs (i : Int)).f0 (rd_T25 xs (i : Int)).f1).bind fun bt => zint_total.l0 k xs (xs.length : Int) ((i + 1 : Nat) : Int) bt.1 bt.2) (fun k => ?_) (Ev.bind (f := fun k bt => zint_total.l0 k xs (xs.length : Int) ((i + 1 : Nat) : Int) bt.1 bt.2) ha hb)
    simp only [zint_total.l0]
    rw [if_pos (by omega), if_pos (by omega), if_pos (by omega), w64 _ (by omega) (by omega)]
    rfl
theorem rep_zero : rep 0 = (false, []) := by simp [rep, toL_zero]
theorem sum_ev (xs : List S25) (L : Nat) (hL : L ≤ 35184372087808) (hn : xs.length ≤ 4398046511104) (hx : ∀ x ∈ xs, Limbs x.f1 ∧ x.f1.length ≤ L) : Ev (fun k => zint_Sum.f k xs) (rep (isum xs)) := by
  have h := total_l0 xs L hL hn hx xs.length 0 0 (by omega) (by omega) (by simp)
  rw [rep_zero, List.drop_zero, Int.zero_add] at h
  exact Ev.bind (g := fun k => zint_total.f k xs) (f := fun _ bt => some (bt.1, bt.2)) h (Ev.now _)

theorem rsum_l0 (xs : List S25) (L : Nat) (hL : L ≤ 35184372087808) (hn : xs.length ≤ 4398046511104) (hx : ∀ x ∈ xs, Limbs x.f1 ∧ x.f1.length ≤ L) : ∀ (j i : Nat) (s : Int), xs.length - i = j → i ≤ xs.length → s.natAbs ≤ i * 4294967296 ^ (L + 1) →
    Ev (fun k => trammelref02_Sum.l0 k xs (i : Int) (rep s).1 (rep s).2) (rep (s + isum (xs.drop i))) := by
  intro j
  induction j with
  | zero =>
    intro i s hj hi hs
    rw [List.drop_eq_nil_of_le (by omega)]
    refine Ev.step (f := fun _ => some ((rep s).1, (rep s).2)) (fun k => ?_) ?_
    · simp only [trammelref02_Sum.l0]
      rw [if_neg (by omega)]
    · simp only [isum, Int.add_zero]
      exact Ev.now _
  | succ j ih =>
    intro i s hj hi hs
    have hlt : i < xs.length := by omega
    obtain ⟨hLx, hlx⟩ := hx _ (getD_mem hlt)
    have hlen : (rep s).2.length ≤ L + 3 := len_of_mul hs (by omega)
    have ha := r2add_ev (rep s).1 (rd_T25 xs (i : Int)).f0 (rep s).2 (rd_T25 xs (i : Int)).f1 (rep_limbs s) hLx (by omega)
    rw [ival_rep] at ha
    have hb := ih (i + 1) (s + ival (rd_T25 xs (i : Int)).f0 (rd_T25 xs (i : Int)).f1) (by omega) (by omega) (part_next hs (ival_le hLx (by omega)))
    rw [getD_drop hlt, isum, ← Int.add_assoc]
    refine Ev.step (f := fun k => (trammelref02_Add.f k (rep s).1 (rep s).2 (rd_T25 xs (i : Int)).f0 (rd_T25 xs (i : Int)).f1).bind fun bt => trammelref02_Sum.l0 k xs ((i + 1 : Nat) : Int) bt.1 bt.2) (fun k => ?_) (Ev.bind (f := fun k bt => trammelref02_Sum.l0 k xs ((i + 1 : Nat) : Int) bt.1 bt.2) ha hb)
    simp only [trammelref02_Sum.l0]
    rw [if_pos (by omega), if_pos (by omega), w64 _ (by omega) (by omega)]
    rfl
theorem rsum_ev (xs : List S25) (L : Nat) (hL : L ≤ 35184372087808) (hn : xs.length ≤ 4398046511104) (hx : ∀ x ∈ xs, Limbs x.f1 ∧ x.f1.length ≤ L) : Ev (fun k => trammelref02_Sum.f k xs) (rep (isum xs)) := by
  have h := rsum_l0 xs L hL hn hx xs.length 0 0 (by omega) (by omega) (by simp)
  rw [List.drop_zero, Int.zero_add] at h
  exact Ev.bind (rof_ev 0 (by decide) (by decide)) h

theorem isum_le (L : Nat) : ∀ (xs : List S25), (∀ x ∈ xs, Limbs x.f1 ∧ x.f1.length ≤ L) → (isum xs).natAbs ≤ xs.length * 4294967296 ^ L
  | [], _ => by simp [isum]
  | x :: xs, h => by
    have h1 := isum_le L xs (fun y hy => h y (List.mem_cons_of_mem _ hy))
    have h2 := ival_le (n := x.f0) (h x List.mem_cons_self).1 (h x List.mem_cons_self).2
    rw [isum, Int.add_comm]
    exact part_next h1 h2
theorem total_len (xs : List S25) (L : Nat) (hL : L ≤ 35184372087808) (hn : xs.length ≤ 4398046511104) (hx : ∀ x ∈ xs, Limbs x.f1 ∧ x.f1.length ≤ L) : (rep (isum xs)).2.length ≤ L + 3 := by
  have := len_of_mul (isum_le L xs hx) (by omega)
  exact Nat.le_trans this (by omega)

theorem law_l0 (xs : List S25) (L : Nat) (hL : L ≤ 35184372087808) (hn : xs.length ≤ 4398046511104) (hx : ∀ x ∈ xs, Limbs x.f1 ∧ x.f1.length ≤ L) : ∀ (j i : Nat), xs.length - i = j → i ≤ xs.length → Ev (fun k => trammellaw02_ZintTotals.l0 k xs (xs.take i) (i : Int)) true := by
  intro j
  induction j with
  | zero =>
    intro i hj hi
    rw [List.take_of_length_le (by omega)]
    refine Ev.step (f := fun k => (zint_Sum.f k xs).bind fun b1 => (trammelref02_Sum.f k xs).bind fun b2 => (trammellaw02_eq.f k b1.1 b1.2 b2.1 b2.2).bind fun t => some t) (fun k => ?_) ?_
    · simp only [trammellaw02_ZintTotals.l0]
      rw [if_neg (by omega)]
    · have hs := sum_ev xs L hL hn hx
      refine Ev.bind hs (Ev.bind (f := fun k b2 => (trammellaw02_eq.f k (rep (isum xs)).1 (rep (isum xs)).2 b2.1 b2.2).bind fun t => some t) (rsum_ev xs L hL hn hx) (Ev.bind (f := fun _ t => some t) (eq_ev _ _ ?_) (Ev.now _)))
      have h := total_len xs L hL hn hx
      omega
  | succ j ih =>
    intro i hj hi
    have hlt : i < xs.length := by omega
    obtain ⟨hLx, hlx⟩ := hx _ (getD_mem hlt)
    refine Ev.step (f := fun k => trammellaw02_ZintTotals.l0 k xs (xs.take (i + 1)) ((i + 1 : Nat) : Int)) (fun k => ?_) (ih (i + 1) (by omega) (by omega))
    simp only [trammellaw02_ZintTotals.l0]
    rw [if_pos (by omega), if_pos (by omega), own_ev _ _ (by omega), Option.bind_some, if_pos (by simp; omega), w64 _ (by omega) (by omega), getD_take hlt]
    rfl

end Go.Proofs.Ytgnonaokinfaeaa.PTotals
