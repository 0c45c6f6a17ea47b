/- Small lemmas between the printed functions' words (reads, wraps, rounds) and the plain arithmetic on limbs. -/
import Derived.Test.YtgnonaokinfaeaaNum
import Derived.Test.YtgnonaokinfaeaaWWords
namespace Go.Proofs.Ytgnonaokinfaeaa.Num
open Go.RowKit Go.Proofs.YtgnonaokinfaeaaW.PrintWords

theorem rd_nat (l : List Int) (i : Nat) : rd l (i : Int) = l.getD i 0 := by simp [rd]
theorem drop_rd {l : List Int} {i : Nat} (h : i < l.length) : l.drop i = l.getD i 0 :: l.drop (i + 1) := by
  rw [List.drop_eq_getElem_cons h, List.getD_eq_getElem?_getD, List.getElem?_eq_getElem h]
  rfl
theorem take_rd {l : List Int} {i : Nat} (h : i < l.length) : l.take (i + 1) = l.take i ++ [l.getD i 0] := by
  rw [List.take_succ_eq_append_getElem h, List.getD_eq_getElem?_getD, List.getElem?_eq_getElem h]
  rfl
theorem getD_out {l : List Int} {i : Nat} (h : l.length ≤ i) : l.getD i 0 = 0 := by
  rw [List.getD_eq_getElem?_getD, List.getElem?_eq_none h]
  rfl
theorem pad_drop (m : Nat) (l : List Int) (i : Nat) : pad (m + 1) (l.drop i) = l.getD i 0 :: pad m (l.drop (i + 1)) := by
  rcases Nat.lt_or_ge i l.length with h | h
  · rw [drop_rd h]
    simp [pad]
  · rw [List.drop_eq_nil_of_le h, List.drop_eq_nil_of_le (by omega), getD_out h]
    simp [pad]
theorem pad_snoc : ∀ (m : Nat) (l : List Int), pad (m + 1) l = pad m l ++ [l.getD m 0]
  | 0, l => by cases l <;> simp [pad]
  | m + 1, l => by
    rw [pad, pad_snoc m l.tail, pad, List.cons_append]
    cases l <;> simp
theorem set_zeros (d : List Int) (m : Nat) (v : Int) : (d ++ List.replicate (m + 1) 0).set d.length v = (d ++ [v]) ++ List.replicate m 0 := by
  simp [List.replicate_succ]
theorem set_zero1 (d : List Int) (v : Int) : (d ++ List.replicate 1 0).set d.length v = d ++ [v] := by
  simp [List.replicate]
theorem w64 (n : Int) (h0 : -9223372036854775808 ≤ n) (h1 : n ≤ 9223372036854775807) : wrap64 n = n := by unfold wrap64; omega
theorem u64w (n : Int) (h0 : 0 ≤ n) (h1 : n ≤ 18446744073709551615) : IntKind.u64.wrap n = n := IntWalk.u64_in n ⟨h0, h1⟩
theorem u64neg (n : Int) (h0 : -18446744073709551616 ≤ n) (h1 : n < 0) : IntKind.u64.wrap n = n + 18446744073709551616 := by rw [IntKind.wrap_u64]; omega
theorem Limbs.rd {l : List Int} (h : Limbs l) (i : Nat) : 0 ≤ l.getD i 0 ∧ l.getD i 0 < 4294967296 := h.getD i
/-- Two walks of the same number of rounds come to one answer. -/
theorem Ev.unique {α : Type} {g : Nat → Option α} {r q : α} (h : Ev g r) (k : Ev g q) : r = q := by
  obtain ⟨K, h⟩ := h
  obtain ⟨L, k⟩ := k
  exact Option.some.inj ((h (max K L) (Nat.le_max_left _ _)).symm.trans (k (max K L) (Nat.le_max_right _ _)))
end Go.Proofs.Ytgnonaokinfaeaa.Num
