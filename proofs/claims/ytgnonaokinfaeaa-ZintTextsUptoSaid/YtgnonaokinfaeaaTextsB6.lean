/- Plain lemmas on the printed functions of ZintTexts: what each comes to. -/
import Derived.Test.YtgnonaokinfaeaaTextsB5
import Derived.Test.YtgnonaokinfaeaaSteps
namespace Go.Proofs.Ytgnonaokinfaeaa.PTexts
open Go.RowKit Go.Proofs.YtgnonaokinfaeaaW.PrintWords Go.Proofs.YtgnonaokinfaeaaW.PrintMore Go.Proofs.Ytgnonaokinfaeaa.Num
set_option linter.unusedVariables false

theorem rread_l0 (s t : ByteArray) (a : Nat) (hz : s.size ≤ 65536) (ht : a + t.size = s.size) (hb : ∀ i : Nat, i < t.size → bt t (i : Int) = bt s ((a + i : Nat) : Int)) : ∀ (d i V : Nat), t.size - i = d → i ≤ t.size → (toL V).length ≤ 2 * i →
    Ev (fun k => trammelref01_Read.l0 k t (toL V) (i : Int)) (match scan s a d (a + i) with | some j => ([], (j : Int) - (a : Int), 4) | none => (toL (dec s d (a + i) V), 0, 0)) := by
  intro d
  induction d with
  | zero =>
    intro i V hd hi hl
    refine Ev.step (f := fun _ => some (toL V, 0, 0)) (fun k => ?_) (Ev.now _)
    simp only [trammelref01_Read.l0]
    rw [if_neg (show ¬ (i : Int) < (t.size : Int) by omega)]
  | succ d ih =>
    intro i V hd hi hl
    have f1 : (i : Int) < (t.size : Int) := by omega
    have f2 : (0 : Int) ≤ (i : Int) := by omega
    have f3 : (0 : Int) < (t.size : Int) := by omega
    have hbi := hb i (by omega)
    have hb0 := hb 0 (by omega)
    have hba : bt t (0 : Int) = bt s (a : Int) := hb0
    have hout : bad s a (a + i) → Ev (fun k => trammelref01_Read.j1 k t (toL V) (i : Int) true) (match scan s a (d + 1) (a + i) with | some j => ([], (j : Int) - (a : Int), 4) | none => (toL (dec s (d + 1) (a + i) V), 0, 0)) := by
      intro h
      rw [scan, if_pos h]
      have e : ((a + i : Nat) : Int) - (a : Int) = (i : Int) := by omega
      refine Ev.step (f := fun _ => some (([] : List Int), (i : Int), 4)) (fun k => ?_) ?_
      · simp only [trammelref01_Read.j1, if_true]
      · simp only [e]
        exact Ev.now _
    have hgo : ¬ bad s a (a + i) → 48 ≤ bt s ((a + i : Nat) : Int) → bt s ((a + i : Nat) : Int) ≤ 57 → Ev (fun k => trammelref01_Read.j1 k t (toL V) (i : Int) false) (match scan s a (d + 1) (a + i) with | some j => ([], (j : Int) - (a : Int), 4) | none => (toL (dec s (d + 1) (a + i) V), 0, 0)) := by
      intro h g0 g1
      rw [scan, if_neg h]
      simp only [dec]
      obtain ⟨v, hv⟩ : ∃ v, v = (bt s ((a + i : Nat) : Int) - 48).toNat := ⟨_, rfl⟩
      have hv9 : v ≤ 9 := by omega
      have hvi : (bt s ((a + i : Nat) : Int) - 48) % 256 = (v : Int) := by omega
      rw [← hv]
      have hn := step_len V 10 v (2 * i) (by decide) (by omega) hl
      have h0 := ih (i + 1) (V * 10 + v) (by omega) (by omega) (by omega)
      rw [show a + (i + 1) = a + i + 1 by omega] at h0
      have e1 : Limbs [(10 : Int)] := Limbs.cons (by omega) (by omega) Limbs.nil
      have e2 : Limbs [(v : Int)] := Limbs.cons (by omega) (by omega) Limbs.nil
      have h1 := rmul_ev (toL V) [(10 : Int)] (limbs_toL V) e1 (by simp; omega)
      have l1 := mul_len (limbs_toL V) e1
      have e3 : val [(10 : Int)] = 10 := by simp [val]
      have e4 : val [(v : Int)] = v := by simp [val]
      rw [val_toL, e3] at h1 l1
      have h2 := radd_ev (toL (V * 10)) [(v : Int)] (limbs_toL _) e2 (by simp at l1 ⊢; omega)
      rw [val_toL, e4] at h2
      have w1 : wrap64 ((i : Int) + 1) = ((i + 1 : Nat) : Int) := w64 _ (by omega) (by omega)
      refine Ev.step (f := fun k => (trammelref01_Mul.f k (toL V) [10]).bind fun u => (trammelref01_Add.f k u [(v : Int)]).bind fun w => trammelref01_Read.l0 k t w ((i + 1 : Nat) : Int)) (fun k => ?_) (Ev.bind (f := fun k u => (trammelref01_Add.f k u [(v : Int)]).bind fun w => trammelref01_Read.l0 k t w ((i + 1 : Nat) : Int)) h1 (Ev.bind (f := fun k w => trammelref01_Read.l0 k t w ((i + 1 : Nat) : Int)) h2 h0))
      simp only [trammelref01_Read.j1, w1, hbi, hvi]
      rw [if_neg (by decide)]
      congr 1
      funext u
      rw [if_pos f2, if_pos f1]
    by_cases b1 : bt s ((a + i : Nat) : Int) < 48
    · refine Ev.step (f := fun k => trammelref01_Read.j1 k t (toL V) (i : Int) true) (fun k => ?_) (hout (Or.inl b1))
      simp only [trammelref01_Read.l0, hbi]
      rw [if_pos f1, if_pos f2, if_pos b1]
    · by_cases b2 : bt s ((a + i : Nat) : Int) > 57
      · refine Ev.step (f := fun k => trammelref01_Read.j1 k t (toL V) (i : Int) true) (fun k => ?_) (hout (Or.inr (Or.inl b2)))
        simp only [trammelref01_Read.l0, hbi]
        rw [if_pos f1, if_pos f2, if_neg b1, if_pos b2]
      · by_cases b3 : i = 1
        · by_cases b4 : bt s (a : Int) = 48
          · refine Ev.step (f := fun k => trammelref01_Read.j1 k t (toL V) (i : Int) true) (fun k => ?_) (hout (Or.inr (Or.inr ⟨by omega, b4⟩)))
            simp only [trammelref01_Read.l0, hbi, hba, b4]
            rw [if_pos f1, if_pos f2, if_neg b1, if_neg b2, if_pos (show (i : Int) = 1 by omega), if_pos f3]
            rfl
          · have hn : ¬ bad s a (a + i) := fun hb => by
              rcases hb with hb | hb | hb
              · exact b1 hb
              · exact b2 hb
              · exact b4 hb.2
            have e4 : (bt s (a : Int) == 48) = false := by simpa using b4
            refine Ev.step (f := fun k => trammelref01_Read.j1 k t (toL V) (i : Int) false) (fun k => ?_) (hgo hn (Int.not_lt.1 b1) (Int.not_lt.1 b2))
            simp only [trammelref01_Read.l0, hbi, hba, e4]
            rw [if_pos f1, if_pos f2, if_neg b1, if_neg b2, if_pos (show (i : Int) = 1 by omega), if_pos f3]
        · have hn : ¬ bad s a (a + i) := fun hb => by
            rcases hb with hb | hb | hb
            · exact b1 hb
            · exact b2 hb
            · exact b3 (by omega)
          refine Ev.step (f := fun k => trammelref01_Read.j1 k t (toL V) (i : Int) false) (fun k => ?_) (hgo hn (Int.not_lt.1 b1) (Int.not_lt.1 b2))
          simp only [trammelref01_Read.l0, hbi]
          rw [if_pos f1, if_pos f2, if_neg b1, if_neg b2, if_neg (show ¬ (i : Int) = 1 by omega)]
theorem dec_limb (s : ByteArray) : ∀ (d i V : Nat), (∀ x, i ≤ x → x < i + d → 48 ≤ bt s (x : Int) ∧ bt s (x : Int) ≤ 57) → (toL V).length ≤ 2 * i → (toL (dec s d i V)).length ≤ 2 * (i + d)
  | 0, i, V, _, h => by simpa [dec] using h
  | d + 1, i, V, hg, h => by
    have h1 := hg i (Nat.le_refl _) (by omega)
    have hn := step_len V 10 (bt s (i : Int) - 48).toNat (2 * i) (by decide) (by omega) h
    have h2 := dec_limb s d (i + 1) (V * 10 + (bt s (i : Int) - 48).toNat) (fun x hx hx2 => hg x (by omega) (by omega)) (by omega)
    simp only [dec]
    omega
/-- The document's reading of a text from place a on. -/
theorem rtail_ev (s : ByteArray) (a : Nat) (hz : s.size ≤ 65536) (ha : a ≤ s.size) : Ev (fun k => (trammelref01_Read.f k (s.extract a s.size)).bind fun bt287 => (if bt287.2.2 = 0 then ((trammelref02_made.f k ((a : Int) == 1) bt287.1).bind fun bt292 => (some (bt292.1, bt292.2, (0 : Int), (0 : Int)))) else (some (false, ([] : List Int), wrap64 ((a : Int) + bt287.2.1), 4)))) (told s a) ∧ (told s a).2.1.length ≤ 131072 := by
  have hs : (s.extract a s.size).size = s.size - a := by rw [ByteArray.size_extract]; omega
  by_cases he : a = s.size
  · have hzero : (s.extract a s.size).size = 0 := by omega
    have ht : told s a = (false, [], (a : Int), 4) := by
      unfold told
      rw [show s.size - a = 0 by omega]
      simp only [scan]
      rw [if_pos he]
    rw [ht]
    refine ⟨?_, Nat.zero_le _⟩
    refine Ev.congr (f := fun _ => some (false, ([] : List Int), (a : Int), 4)) (fun k => ?_) (Ev.now _)
    unfold trammelref01_Read.f
    rw [hzero, if_neg (by decide), if_pos (by decide), Option.bind_some, if_neg (by decide)]
    have e : wrap64 ((a : Int) + 0) = (a : Int) := by
      rw [Int.add_zero]
      exact w64 _ (by omega) (by omega)
    exact congrArg (fun z => some (false, ([] : List Int), z, (4 : Int))) e
  · have h := rread_l0 s (s.extract a s.size) a hz (by omega) (fun i hi => bt_ext s a i (by omega)) (s.size - a) 0 0 (by omega) (by omega) (by simp [toL_zero])
    rw [toL_zero, Nat.add_zero] at h
    have hf : Ev (fun k => trammelref01_Read.f k (s.extract a s.size)) (match scan s a (s.size - a) a with | some j => ([], (j : Int) - (a : Int), 4) | none => (toL (dec s (s.size - a) a 0), 0, 0)) := by
      refine Ev.congr (fun k => ?_) h
      unfold trammelref01_Read.f
      rw [if_neg (by omega), if_neg (by omega)]
      rfl
    have hin : ∀ j, scan s a (s.size - a) a = some j → j < s.size := fun j hj => by
      have : ∀ (d i : Nat), scan s a d i = some j → j < i + d := by
        intro d
        induction d with
        | zero => intro i h; cases h
        | succ d ih =>
          intro i h
          unfold scan at h
          by_cases hb : bad s a i
          · rw [if_pos hb] at h
            injection h with h
            omega
          · rw [if_neg hb] at h
            have := ih _ h
            omega
      have := this _ _ hj
      omega
    unfold told
    cases hsc : scan s a (s.size - a) a with
    | some j =>
      have hj := hin j hsc
      rw [hsc] at hf
      refine ⟨Ev.bind (f := fun k (bt287 : List Int × Int × Int) => (if bt287.2.2 = 0 then ((trammelref02_made.f k ((a : Int) == 1) bt287.1).bind fun bt292 => (some (bt292.1, bt292.2, (0 : Int), (0 : Int)))) else (some (false, ([] : List Int), wrap64 ((a : Int) + bt287.2.1), 4)))) hf ?_, Nat.zero_le _⟩
      have e : wrap64 ((a : Int) + ((j : Int) - (a : Int))) = (j : Int) := by
        rw [show (a : Int) + ((j : Int) - (a : Int)) = (j : Int) by omega]
        exact w64 _ (by omega) (by omega)
      refine Ev.congr (f := fun _ => some (false, ([] : List Int), (j : Int), 4)) (fun k => ?_) (Ev.now _)
      simp only [e]
      rw [if_neg (by decide)]
    | none =>
      rw [hsc] at hf
      have hd := dec_limb s (s.size - a) a 0 (fun x h1 h2 => scan_none _ _ _ _ hsc x h1 h2) (by simp [toL_zero])
      simp only [if_neg he]
      refine ⟨Ev.bind (f := fun k (bt287 : List Int × Int × Int) => (if bt287.2.2 = 0 then ((trammelref02_made.f k ((a : Int) == 1) bt287.1).bind fun bt292 => (some (bt292.1, bt292.2, (0 : Int), (0 : Int)))) else (some (false, ([] : List Int), wrap64 ((a : Int) + bt287.2.1), 4)))) hf ?_, ?_⟩
      · refine Ev.congr (f := fun k => (trammelref02_made.f k ((a : Int) == 1) (toL (dec s (s.size - a) a 0))).bind fun b => some (b.1, b.2, (0 : Int), (0 : Int))) (fun k => ?_) (Ev.bind (f := fun _ b => some (b.1, b.2, (0 : Int), (0 : Int))) (rmade_rep _ _ (limbs_toL _) (by omega)) (Ev.now _))
        simp only [if_true]
      · have h1 : (ival ((a : Int) == 1) (toL (dec s (s.size - a) a 0))).natAbs = dec s (s.size - a) a 0 := by
          unfold ival
          rw [val_toL]
          split <;> omega
        show (toL _).length ≤ _
        rw [h1]
        omega

end Go.Proofs.Ytgnonaokinfaeaa.PTexts
