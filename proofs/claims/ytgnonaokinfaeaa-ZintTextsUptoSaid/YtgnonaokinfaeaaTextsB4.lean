/- Plain lemmas on the printed functions of ZintTexts: what each comes to. -/
import Derived.Test.YtgnonaokinfaeaaTextsB3
import Derived.Test.YtgnonaokinfaeaaSteps
namespace Go.Proofs.Ytgnonaokinfaeaa.PTexts
open Go.RowKit Go.Proofs.YtgnonaokinfaeaaW.PrintWords Go.Proofs.YtgnonaokinfaeaaW.PrintMore Go.Proofs.Ytgnonaokinfaeaa.Num
set_option linter.unusedVariables false

theorem rtext_l1 (x : List Int) (t R : ByteArray) : ∀ (j i r : Nat) (c : List Int), j + i = 9 → r < 4294967296 → c.length + j + t.size ≤ 4611686018427387904 → Ev (fun k => trammelref01_Text.l0 k x (strOfNums ((chunk j (decide (0 < x.length)) r).reverse ++ c) ++ t)) R → Ev (fun k => trammelref01_Text.l1 k x t (r : Int) (strOfNums c) (i : Int)) R := by
  intro j
  induction j with
  | zero =>
    intro i r c hj hr hb hR
    simp only [chunk, List.reverse_nil, List.nil_append] at hR
    refine Ev.step (f := fun k => trammelref01_Text.l0 k x (strOfNums c ++ t)) (fun k => ?_) hR
    simp only [trammelref01_Text.l1, str_size]
    rw [if_neg (by omega), if_pos (by omega)]
  | succ j ih =>
    intro i r c hj hr hb hR
    have w1 : wrap64 ((i : Int) + 1) = ((i + 1 : Nat) : Int) := by rw [w64 _ (by omega) (by omega)]; rfl
    have d0 : Int.tmod (r : Int) 10 = ((r % 10 : Nat) : Int) := by rw [Int.tmod_eq_emod_of_nonneg (by omega)]; omega
    have d1 : (IntKind.u64.wrap (48 + Int.tmod (r : Int) 10)) % 256 = ((48 + r % 10 : Nat) : Int) := by
      rw [d0, u64w _ (by omega) (by omega)]
      omega
    have d3 : Int.tdiv (r : Int) 10 = ((r / 10 : Nat) : Int) := by rw [Int.tdiv_eq_ediv_of_nonneg (by omega)]; omega
    have d2 : IntKind.u64.wrap (Int.tdiv (r : Int) 10) = ((r / 10 : Nat) : Int) := by rw [d3, u64w _ (by omega) (by omega)]
    by_cases hm : 0 < x.length ∨ 0 < r
    · have hc : chunk (j + 1) (decide (0 < x.length)) r = ((48 + r % 10 : Nat) : Int) :: chunk j (decide (0 < x.length)) (r / 10) := by
        rw [chunk, if_pos (by simpa using hm)]
      rw [hc, List.reverse_cons, List.append_assoc, List.singleton_append] at hR
      have h := ih (i + 1) (r / 10) (((48 + r % 10 : Nat) : Int) :: c) (by omega) (by omega) (by simp; omega) hR
      have es : strOfNums [((48 + r % 10 : Nat) : Int)] ++ strOfNums c = strOfNums (((48 + r % 10 : Nat) : Int) :: c) := by rw [← str_append]; rfl
      refine Ev.step (f := fun k => trammelref01_Text.l1 k x t ((r / 10 : Nat) : Int) (strOfNums (((48 + r % 10 : Nat) : Int) :: c)) ((i + 1 : Nat) : Int)) (fun k => ?_) h
      have hz : (strOfNums [((48 + r % 10 : Nat) : Int)]).size + (strOfNums c).size ≤ 9223372036854775807 := by rw [str_size, str_size, List.length_singleton]; omega
      simp only [trammelref01_Text.l1, w1, d1, d2, Option.bind_some, es]
      rw [if_pos (show (i : Int) < 9 by omega)]
      by_cases hx : 0 < r
      · rw [if_pos (show (r : Int) > 0 by omega), if_pos hz]
      · rw [if_neg (show ¬ (r : Int) > 0 by omega), if_pos (show (x.length : Int) > 0 by omega), if_pos hz]
    · have hc : chunk (j + 1) (decide (0 < x.length)) r = [] := by
        rw [chunk, if_neg (by simpa using hm)]
      rw [hc, List.reverse_nil, List.nil_append] at hR
      refine Ev.step (f := fun k => trammelref01_Text.l0 k x (strOfNums c ++ t)) (fun k => ?_) hR
      simp only [trammelref01_Text.l1]
      rw [if_pos (show (i : Int) < 9 by omega), if_neg (show ¬ (r : Int) > 0 by omega), if_neg (show ¬ (x.length : Int) > 0 by omega), str_size, if_pos (by omega)]
theorem rtext_l0 : ∀ (s n : Nat) (t : ByteArray), n < 1000000000 ^ s → (toL n).length ≤ 1099511627776 → t.size + 9 * s ≤ 4611686018427387904 → Ev (fun k => trammelref01_Text.l0 k (toL n) t) (strOfNums (dig n).reverse ++ t) := by
  have hz : ∀ t : ByteArray, Ev (fun k => trammelref01_Text.l0 k (toL 0) t) (strOfNums (dig 0).reverse ++ t) := by
    intro t
    rw [dig_zero, toL_zero]
    have e : strOfNums ([] : List Int).reverse ++ t = t := by
      apply ByteArray.ext
      simp [strOfNums]
    rw [e]
    refine Ev.step (f := fun _ => some t) (fun k => ?_) (Ev.now _)
    simp only [trammelref01_Text.l0]
    rw [if_neg (by simp)]
  intro s
  induction s with
  | zero =>
    intro n t hn hl hb
    obtain rfl : n = 0 := by simpa using hn
    exact hz t
  | succ s ih =>
    intro n t hn hl hb
    rcases Nat.eq_zero_or_pos n with h0 | h0
    · subst h0
      exact hz t
    · have h1 : n / 1000000000 < 1000000000 ^ s := by
        rw [Nat.div_lt_iff_lt_mul (by decide)]
        rw [Nat.pow_succ] at hn
        exact hn
      have h2 : (toL (n / 1000000000)).length ≤ (toL n).length := toL_mono (Nat.div_le_self _ _)
      have h3 := toL_len_pos h0
      have h4 := chunk_len 9 (decide (0 < n / 1000000000)) (n % 1000000000)
      have h5 := rshort_ev (toL n) (limbs_toL n) hl
      rw [val_toL] at h5
      have h6 := ih (n / 1000000000) (strOfNums (chunk 9 (decide (0 < n / 1000000000)) (n % 1000000000)).reverse ++ t) h1 (by omega) (by rw [ByteArray.size_append, str_size, List.length_reverse]; omega)
      rw [← ByteArray.append_assoc, ← str_append, ← List.reverse_append, ← dig_pos h0, ← toL_more] at h6
      have h7 := rtext_l1 (toL (n / 1000000000)) t _ 9 0 (n % 1000000000) [] rfl (by omega) (by simp; omega) (by rw [List.append_nil]; exact h6)
      refine Ev.step (f := fun k => (trammelref01_small.f k (toL n) 1000000000).bind fun bt => trammelref01_Text.l1 k bt.1 t bt.2 (⟨#[]⟩ : ByteArray) 0) (fun k => ?_) (Ev.bind (f := fun k bt => trammelref01_Text.l1 k bt.1 t bt.2 (⟨#[]⟩ : ByteArray) 0) h5 h7)
      simp only [trammelref01_Text.l0]
      rw [if_pos (by omega)]
/-- The document's text of a magnitude. -/
theorem rtext_ev (l : List Int) (hL : Limbs l) (hl : l.length ≤ 1048576) : Ev (fun k => trammelref01_Text.f k l) (txt (val l)) := by
  have h0 := rnorm_ev l (by omega)
  rw [strip_eq hL] at h0
  refine Ev.bind (f := fun k t => if (t.length : Int) = 0 then some (⟨#[48]⟩ : ByteArray) else trammelref01_Text.l0 k t (⟨#[]⟩ : ByteArray)) h0 ?_
  have h1 := toL_le_of_limbs hL
  have h2 := val_pow hL
  unfold txt
  rcases Nat.eq_zero_or_pos (val l) with hv | hv
  · rw [hv, toL_zero, if_pos rfl]
    exact Ev.congr (f := fun _ => some (⟨#[48]⟩ : ByteArray)) (fun k => by rw [if_pos (by simp)]) (Ev.now _)
  · have h3 := toL_len_pos hv
    rw [if_neg (by omega)]
    have h5 := rtext_l0 _ _ (⟨#[]⟩ : ByteArray) h2 (by omega) (by have e : (⟨#[]⟩ : ByteArray).size = 0 := rfl; rw [e]; omega)
    have e : strOfNums (dig (val l)).reverse ++ (⟨#[]⟩ : ByteArray) = strOfNums (dig (val l)).reverse := by
      apply ByteArray.ext
      simp [strOfNums]
    rw [e] at h5
    exact Ev.congr (f := fun k => trammelref01_Text.l0 k (toL (val l)) (⟨#[]⟩ : ByteArray)) (fun k => by rw [if_neg (by omega)]) h5
theorem txt_size {l : List Int} (hL : Limbs l) (hl : l.length ≤ 1048576) : (txt (val l)).size ≤ 18874368 := by
  have h4 := dig_len _ _ (val_pow hL)
  unfold txt
  split
  · exact Nat.le_trans (show (⟨#[48]⟩ : ByteArray).size ≤ 1 from Nat.le_refl _) (by decide)
  · rw [str_size, List.length_reverse]
    omega
/-- The text of a number. -/
def ztxt (n : Bool) (l : List Int) : ByteArray := if sgn (ival n l) < 0 then (⟨#[45]⟩ : ByteArray) ++ txt (val l) else txt (val l)
theorem ztext_ev (n : Bool) (l : List Int) (hL : Limbs l) (hl : l.length ≤ 1048576) : Ev (fun k => zint_Text.f k n l) (ztxt n l) := by
  have hs := txt_size hL hl
  refine Ev.bind (zsign_ev n l hL (by omega)) ?_
  unfold ztxt
  by_cases h : sgn (ival n l) < 0
  · rw [if_pos h]
    refine Ev.congr (f := fun k => (nat_Text.f k l).bind fun t => if 1 + t.size ≤ 9223372036854775807 then some ((⟨#[45]⟩ : ByteArray) ++ t) else none) (fun k => by rw [if_pos h]) (Ev.bind (f := fun _ t => if 1 + t.size ≤ 9223372036854775807 then some ((⟨#[45]⟩ : ByteArray) ++ t) else none) (ntext_ev l hL hl) ?_)
    rw [if_pos (by omega)]
    exact Ev.now _
  · rw [if_neg h]
    refine Ev.congr (f := fun k => (nat_Text.f k l).bind fun t => some t) (fun k => by rw [if_neg h]) (Ev.bind (f := fun _ t => some t) (ntext_ev l hL hl) (Ev.now _))
theorem r2text_ev (n : Bool) (l : List Int) (hL : Limbs l) (hl : l.length ≤ 1048576) : Ev (fun k => trammelref02_Text.f k n l) (ztxt n l) := by
  have hs := txt_size hL hl
  refine Ev.bind (rtext_ev l hL hl) (Ev.bind (rsign_ev n l hL (by omega)) ?_)
  unfold ztxt
  by_cases h : sgn (ival n l) < 0
  · rw [if_pos h, if_pos h, if_pos (by omega)]
    exact Ev.now _
  · rw [if_neg h, if_neg h]
    exact Ev.now _

end Go.Proofs.Ytgnonaokinfaeaa.PTexts
