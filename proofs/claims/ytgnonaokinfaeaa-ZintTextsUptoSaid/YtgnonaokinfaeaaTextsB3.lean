/- Plain lemmas on the printed functions of ZintTexts: what each comes to. -/
import Derived.Test.YtgnonaokinfaeaaTextsB2
import Derived.Test.YtgnonaokinfaeaaSteps
namespace Go.Proofs.Ytgnonaokinfaeaa.PTexts
open Go.RowKit Go.Proofs.YtgnonaokinfaeaaW.PrintWords Go.Proofs.YtgnonaokinfaeaaW.PrintMore Go.Proofs.Ytgnonaokinfaeaa.Num
set_option linter.unusedVariables false

theorem ntext_l2 : ∀ (n : Nat) (mid p s : List Int) (i : Nat), mid.length = n → p.length = i → p.length + mid.length + s.length ≤ 140737488355328 → Ev (fun k => nat_Text.l2 k (p ++ mid ++ s) (i : Int) ((i : Int) + (mid.length : Int) - 1)) (strOfNums (p ++ mid.reverse ++ s)) := by
  intro n
  induction n using Nat.strongRecOn with
  | _ n ih =>
    intro mid p s i hn hp hb
    rcases Nat.lt_or_ge mid.length 2 with h2 | h2
    · have hr : mid.reverse = mid := by
        match mid, h2 with
        | [], _ => rfl
        | [a], _ => rfl
        | _ :: _ :: _, h2 => simp at h2; omega
      rw [hr]
      refine Ev.step (f := fun _ => some (strOfNums (p ++ mid ++ s))) (fun k => ?_) (Ev.now _)
      simp only [nat_Text.l2]
      rw [if_neg (by omega)]
    · obtain ⟨a, t, rfl⟩ : ∃ a t, mid = a :: t := by
        cases mid with
        | nil => simp at h2
        | cons a t => exact ⟨a, t, rfl⟩
      obtain ⟨m, b, rfl⟩ : ∃ m b, t = m ++ [b] := by
        rcases List.eq_nil_or_concat t with h | ⟨m, b, h⟩
        · subst h
          simp at h2
        · exact ⟨m, b, by rw [h, List.concat_eq_append]⟩
      have hlen : (a :: (m ++ [b])).length = m.length + 2 := by simp
      have h := ih m.length (by omega) m (p ++ [b]) (a :: s) (i + 1) rfl (by simp [hp]) (by simp at hb ⊢; omega)
      have e1 : p ++ [b] ++ m.reverse ++ a :: s = p ++ (a :: (m ++ [b])).reverse ++ s := by simp
      rw [e1] at h
      have e2 : p ++ (a :: (m ++ [b])) ++ s = p ++ a :: (m ++ b :: s) := by simp
      have e3 : p ++ a :: (m ++ b :: s) = (p ++ a :: m) ++ b :: s := by simp
      have e4 : (p ++ [b]) ++ (m ++ b :: s) = (p ++ [b] ++ m) ++ b :: s := by simp
      have r1 : (p ++ a :: (m ++ b :: s)).getD i 0 = a := rd_mid p _ a i hp
      have r2 : (p ++ a :: (m ++ b :: s)).getD (i + m.length + 1) 0 = b := by
        rw [e3]
        exact rd_mid (p ++ a :: m) s b (i + m.length + 1) (by simp; omega)
      have s1 : (p ++ a :: (m ++ b :: s)).set i b = (p ++ [b] ++ m) ++ b :: s := by rw [set_mid p _ a b i hp, e4]
      have s2 : ((p ++ [b] ++ m) ++ b :: s).set (i + m.length + 1) a = p ++ [b] ++ m ++ a :: s := by
        rw [set_mid (p ++ [b] ++ m) s b a (i + m.length + 1) (by simp; omega)]
        simp
      have hx : (i : Int) + ((a :: (m ++ [b])).length : Int) - 1 = ((i + m.length + 1 : Nat) : Int) := by rw [hlen]; omega
      obtain ⟨hL, f1, f2, f3, f4, f5, w1, w2⟩ : (p ++ a :: (m ++ b :: s)).length = i + m.length + 2 + s.length ∧ (i : Int) < ((i + m.length + 1 : Nat) : Int) ∧ (0 : Int) ≤ ((i + m.length + 1 : Nat) : Int) ∧ ((i + m.length + 1 : Nat) : Int) < ((i + m.length + 2 + s.length : Nat) : Int) ∧ (0 : Int) ≤ (i : Int) ∧ (i : Int) < ((i + m.length + 2 + s.length : Nat) : Int) ∧ wrap64 ((i : Int) + 1) = ((i + 1 : Nat) : Int) ∧ wrap64 (((i + m.length + 1 : Nat) : Int) - 1) = ((i + 1 : Nat) : Int) + (m.length : Int) - 1 := by
        have hb1 : i + m.length + 2 + s.length ≤ 140737488355328 := by rw [hlen] at hb; omega
        clear h hx hb ih e1 r1 r2 s1 s2 e2 e3 e4
        have hL : (p ++ a :: (m ++ b :: s)).length = i + m.length + 2 + s.length := by rw [List.length_append, List.length_cons, List.length_append, List.length_cons, hp]; omega
        have f1 : (i : Int) < ((i + m.length + 1 : Nat) : Int) := by omega
        have f2 : (0 : Int) ≤ ((i + m.length + 1 : Nat) : Int) := by omega
        have f3 : ((i + m.length + 1 : Nat) : Int) < ((i + m.length + 2 + s.length : Nat) : Int) := by omega
        have f4 : (0 : Int) ≤ (i : Int) := by omega
        have f5 : (i : Int) < ((i + m.length + 2 + s.length : Nat) : Int) := by omega
        have w1 : wrap64 ((i : Int) + 1) = ((i + 1 : Nat) : Int) := w64 _ (by omega) (by omega)
        have w2 : wrap64 (((i + m.length + 1 : Nat) : Int) - 1) = ((i + 1 : Nat) : Int) + (m.length : Int) - 1 := by
          clear w1
          have e : ((i + m.length + 1 : Nat) : Int) - 1 = ((i + 1 : Nat) : Int) + (m.length : Int) - 1 := by omega
          rw [e]
          exact w64 _ (by omega) (by omega)
        exact ⟨hL, f1, f2, f3, f4, f5, w1, w2⟩
      refine Ev.step (f := fun k => nat_Text.l2 k (p ++ [b] ++ m ++ a :: s) ((i + 1 : Nat) : Int) (((i + 1 : Nat) : Int) + (m.length : Int) - 1)) (fun k => ?_) h
      rw [e2]
      simp only [nat_Text.l2, hx, w1, w2, hL, rd_nat, Int.toNat_natCast, r1, r2, s1, s2]
      rw [if_pos f1, if_pos f2, if_pos f3, if_pos f4, if_pos f5]
theorem ntext_l1 (x : List Int) (R : ByteArray) : ∀ (j i r : Nat) (back : List Int), j + i = 9 → r < 4294967296 → back.length + j ≤ 140737488355327 → Ev (fun k => nat_Text.l0 k x (back ++ chunk j (decide (0 < x.length)) r)) R → Ev (fun k => nat_Text.l1 k back x (r : Int) (i : Int)) R := by
  intro j
  induction j with
  | zero =>
    intro i r back hj hr hb hR
    simp only [chunk, List.append_nil] at hR
    refine Ev.step (f := fun k => nat_Text.l0 k x back) (fun k => ?_) hR
    simp only [nat_Text.l1]
    rw [if_neg (by omega)]
  | succ j ih =>
    intro i r back hj hr hb hR
    have w1 : wrap64 ((i : Int) + 1) = ((i + 1 : Nat) : Int) := by rw [w64 _ (by omega) (by omega)]; rfl
    have d1 : (48 + Int.tmod (r : Int) 10) % 256 = ((48 + r % 10 : Nat) : Int) := by rw [Int.tmod_eq_emod_of_nonneg (by omega)]; omega
    have d2 : Int.tdiv (r : Int) 10 % 4294967296 = ((r / 10 : Nat) : Int) := by rw [Int.tdiv_eq_ediv_of_nonneg (by omega)]; omega
    by_cases hm : 0 < x.length ∨ 0 < r
    · have hc : chunk (j + 1) (decide (0 < x.length)) r = ((48 + r % 10 : Nat) : Int) :: chunk j (decide (0 < x.length)) (r / 10) := by
        rw [chunk, if_pos (by simpa using hm)]
      rw [hc] at hR
      have e1 : back ++ ((48 + r % 10 : Nat) : Int) :: chunk j (decide (0 < x.length)) (r / 10) = (back ++ [((48 + r % 10 : Nat) : Int)]) ++ chunk j (decide (0 < x.length)) (r / 10) := by simp
      rw [e1] at hR
      have h := ih (i + 1) (r / 10) (back ++ [((48 + r % 10 : Nat) : Int)]) (by omega) (by omega) (by simp; omega) hR
      refine Ev.step (f := fun k => nat_Text.l1 k (back ++ [((48 + r % 10 : Nat) : Int)]) x ((r / 10 : Nat) : Int) ((i + 1 : Nat) : Int)) (fun k => ?_) h
      simp only [nat_Text.l1, w1, d1, d2]
      rw [if_pos (by omega)]
      by_cases hx : 0 < x.length
      · rw [if_pos (by omega), if_pos (by omega)]
      · rw [if_neg (by omega), if_pos (by omega), if_pos (by omega)]
    · have hc : chunk (j + 1) (decide (0 < x.length)) r = [] := by
        rw [chunk, if_neg (by simpa using hm)]
      rw [hc, List.append_nil] at hR
      refine Ev.step (f := fun k => nat_Text.l0 k x back) (fun k => ?_) hR
      simp only [nat_Text.l1]
      rw [if_pos (by omega), if_neg (by omega), if_neg (by omega)]
theorem ntext_l0 (R : ByteArray) : ∀ (s n : Nat) (back : List Int), n < 1000000000 ^ s → (toL n).length ≤ 1099511627776 → back.length + 9 * s ≤ 140737488355327 → Ev (fun k => nat_Text.l2 k (back ++ dig n) 0 (((back ++ dig n).length : Int) - 1)) R → Ev (fun k => nat_Text.l0 k (toL n) back) R := by
  intro s
  induction s with
  | zero =>
    intro n back hn hl hb hR
    obtain rfl : n = 0 := by simpa using hn
    rw [dig_zero, List.append_nil] at hR
    rw [toL_zero]
    refine Ev.step (f := fun k => nat_Text.l2 k back 0 ((back.length : Int) - 1)) (fun k => ?_) hR
    simp only [nat_Text.l0]
    rw [if_neg (by simp), w64 _ (by omega) (by omega)]
  | succ s ih =>
    intro n back hn hl hb hR
    rcases Nat.eq_zero_or_pos n with h0 | h0
    · subst h0
      rw [dig_zero, List.append_nil] at hR
      rw [toL_zero]
      refine Ev.step (f := fun k => nat_Text.l2 k back 0 ((back.length : Int) - 1)) (fun k => ?_) hR
      simp only [nat_Text.l0]
      rw [if_neg (by simp), w64 _ (by omega) (by omega)]
    · have h1 : n / 1000000000 < 1000000000 ^ s := by
        rw [Nat.div_lt_iff_lt_mul (by decide)]
        rw [Nat.pow_succ] at hn
        exact hn
      have h2 : (toL (n / 1000000000)).length ≤ (toL n).length := toL_mono (Nat.div_le_self _ _)
      have h3 := toL_len_pos h0
      have h4 := chunk_len 9 (decide (0 < n / 1000000000)) (n % 1000000000)
      have h5 := nshort_ev (toL n) (limbs_toL n) hl
      rw [val_toL] at h5
      rw [dig_pos h0, ← List.append_assoc] at hR
      have h6 := ih (n / 1000000000) (back ++ chunk 9 (decide (0 < n / 1000000000)) (n % 1000000000)) h1 (by omega) (by rw [List.length_append]; omega) hR
      rw [← toL_more] at h6
      have h7 := ntext_l1 (toL (n / 1000000000)) R 9 0 (n % 1000000000) back rfl (by omega) (by omega) h6
      refine Ev.step (f := fun k => (nat_short.f k (toL n) 1000000000).bind fun bt => nat_Text.l1 k back bt.1 bt.2 0) (fun k => ?_) (Ev.bind (f := fun k bt => nat_Text.l1 k back bt.1 bt.2 0) h5 h7)
      simp only [nat_Text.l0]
      rw [if_pos (by omega)]
/-- nat.Text. -/
theorem ntext_ev (l : List Int) (hL : Limbs l) (hl : l.length ≤ 1048576) : Ev (fun k => nat_Text.f k l) (txt (val l)) := by
  have h0 := nnorm_ev l (by omega)
  rw [strip_eq hL] at h0
  refine Ev.bind (f := fun k t => if (t.length : Int) = 0 then some (⟨#[48]⟩ : ByteArray) else nat_Text.l0 k t []) h0 ?_
  have h1 := toL_le_of_limbs hL
  have h2 := val_pow hL
  unfold txt
  rcases Nat.eq_zero_or_pos (val l) with hv | hv
  · rw [hv, toL_zero, if_pos rfl]
    exact Ev.congr (f := fun _ => some (⟨#[48]⟩ : ByteArray)) (fun k => by rw [if_pos (by simp)]) (Ev.now _)
  · have h3 := toL_len_pos hv
    rw [if_neg (by omega)]
    have h4 := dig_len _ _ h2
    have h5 := ntext_l2 _ (dig (val l)) [] [] 0 rfl rfl (by simp; omega)
    simp only [List.nil_append, List.append_nil] at h5
    refine Ev.congr (f := fun k => nat_Text.l0 k (toL (val l)) []) (fun k => by rw [if_neg (by omega)]) (ntext_l0 _ _ _ [] h2 (by omega) (by simp; omega) ?_)
    rw [List.nil_append]
    have e : ((0 : Nat) : Int) + ((dig (val l)).length : Int) - 1 = ((dig (val l)).length : Int) - 1 := by omega
    rw [e] at h5
    exact h5

end Go.Proofs.Ytgnonaokinfaeaa.PTexts
