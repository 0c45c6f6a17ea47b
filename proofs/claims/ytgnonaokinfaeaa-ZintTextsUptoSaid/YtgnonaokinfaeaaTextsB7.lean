/- Plain lemmas on the printed functions of ZintTexts: what each comes to. -/
import Derived.Test.YtgnonaokinfaeaaTextsB6
import Derived.Test.YtgnonaokinfaeaaTextsB4
import Derived.Test.YtgnonaokinfaeaaTextsA10
import Derived.Test.YtgnonaokinfaeaaSteps
namespace Go.Proofs.Ytgnonaokinfaeaa.PTexts
open Go.RowKit Go.Proofs.YtgnonaokinfaeaaW.PrintWords Go.Proofs.YtgnonaokinfaeaaW.PrintMore Go.Proofs.Ytgnonaokinfaeaa.Num
set_option linter.unusedVariables false

/-- Both readings of a text come to the same. -/
theorem read_j2 (s : ByteArray) (a : Nat) (b : Bool) (hz : s.size ≤ 65536) (ha : a ≤ s.size) : ∃ R : Bool × List Int × Int × Int, Ev (fun k => zint_Read.j2 k s (a : Int) b) R ∧ Ev (fun k => trammelref02_Read.j2 k s (a : Int) b) R ∧ R.2.1.length ≤ 131072 := by
  cases b with
  | true =>
    refine ⟨(false, [], 1, 4), Ev.step (f := fun _ => some (false, [], 1, 4)) (fun k => ?_) (Ev.now _), Ev.step (f := fun _ => some (false, [], 1, 4)) (fun k => ?_) (Ev.now _), Nat.zero_le _⟩
    · simp only [zint_Read.j2, if_true]
    · simp only [trammelref02_Read.j2, if_true]
  | false =>
    obtain ⟨h1, h2⟩ := rtail_ev s a hz ha
    have h0 := ztail_ev s a hz ha
    refine ⟨told s a, Ev.step (fun k => ?_) h0, Ev.step (fun k => ?_) h1, h2⟩
    · simp only [zint_Read.j2]
      rw [if_neg (by decide)]
    · simp only [trammelref02_Read.j2]
      rw [if_neg (by decide), if_pos (show (0 : Int) ≤ (a : Int) by omega), if_pos (show (a : Int) ≤ (s.size : Int) by omega), Int.toNat_natCast]
theorem read_j1 (s : ByteArray) (a : Nat) (hz : s.size ≤ 65536) (ha : a ≤ s.size) : ∃ R : Bool × List Int × Int × Int, Ev (fun k => zint_Read.j1 k s (a : Int)) R ∧ Ev (fun k => trammelref02_Read.j1 k s (a : Int)) R ∧ R.2.1.length ≤ 131072 := by
  obtain ⟨b, e1, e2⟩ : ∃ b : Bool, (∀ k, zint_Read.j1 (k + 1) s (a : Int) = zint_Read.j2 k s (a : Int) b) ∧ (∀ k, trammelref02_Read.j1 (k + 1) s (a : Int) = trammelref02_Read.j2 k s (a : Int) b) := by
    by_cases h1 : (a : Int) = 1
    · by_cases h2 : (s.size : Int) > 1
      · refine ⟨bt s 1 == 48, fun k => ?_, fun k => ?_⟩
        · simp only [zint_Read.j1]
          rw [if_pos h1, if_pos h2, if_pos (show 1 < (s.size : Int) from h2)]
        · simp only [trammelref02_Read.j1]
          rw [if_pos h1, if_pos h2, if_pos (show 1 < (s.size : Int) from h2)]
      · refine ⟨false, fun k => ?_, fun k => ?_⟩
        · simp only [zint_Read.j1]
          rw [if_pos h1, if_neg h2]
        · simp only [trammelref02_Read.j1]
          rw [if_pos h1, if_neg h2]
    · refine ⟨false, fun k => ?_, fun k => ?_⟩
      · simp only [zint_Read.j1]
        rw [if_neg h1]
      · simp only [trammelref02_Read.j1]
        rw [if_neg h1]
  obtain ⟨R, h1, h2, h3⟩ := read_j2 s a b hz ha
  exact ⟨R, Ev.step e1 h1, Ev.step e2 h2, h3⟩
theorem read_ev (s : ByteArray) : ∃ R : Bool × List Int × Int × Int, Ev (fun k => zint_Read.f k s) R ∧ Ev (fun k => trammelref02_Read.f k s) R ∧ R.2.1.length ≤ 131072 := by
  by_cases hb : (s.size : Int) > 65536
  · refine ⟨(false, [], 0, 2), Ev.congr (f := fun _ => some (false, [], 0, 2)) (fun k => ?_) (Ev.now _), Ev.congr (f := fun _ => some (false, [], 0, 2)) (fun k => ?_) (Ev.now _), Nat.zero_le _⟩
    · unfold zint_Read.f
      rw [if_pos hb]
    · unfold trammelref02_Read.f
      rw [if_pos hb]
  · have hz : s.size ≤ 65536 := by omega
    have e0 : ∀ k, zint_Read.j0 (k + 1) s 0 false = zint_Read.j1 k s ((0 : Nat) : Int) := fun k => by
      simp only [zint_Read.j0]
      rw [if_neg (by decide)]
      rfl
    have e1 : ∀ k, zint_Read.j0 (k + 1) s 0 true = zint_Read.j1 k s ((1 : Nat) : Int) := fun k => by
      simp only [zint_Read.j0, if_true]
      rfl
    have r0 : ∀ k, trammelref02_Read.j0 (k + 1) s 0 false = trammelref02_Read.j1 k s ((0 : Nat) : Int) := fun k => by
      simp only [trammelref02_Read.j0]
      rw [if_neg (by decide)]
      rfl
    have r1 : ∀ k, trammelref02_Read.j0 (k + 1) s 0 true = trammelref02_Read.j1 k s ((1 : Nat) : Int) := fun k => by
      simp only [trammelref02_Read.j0, if_true]
      rfl
    by_cases hp : (s.size : Int) > 0
    · have fz : ∀ k, zint_Read.f k s = zint_Read.j0 k s 0 (bt s 0 == 45) := fun k => by
        unfold zint_Read.f
        rw [if_neg hb, if_pos hp, if_pos (show 0 < (s.size : Int) from hp)]
      have fr : ∀ k, trammelref02_Read.f k s = trammelref02_Read.j0 k s 0 (bt s 0 == 45) := fun k => by
        unfold trammelref02_Read.f
        rw [if_neg hb, if_pos hp, if_pos (show 0 < (s.size : Int) from hp)]
      cases hm : (bt s 0 == 45) with
      | true =>
        rw [hm] at fz fr
        obtain ⟨R, h1, h2, h3⟩ := read_j1 s 1 hz (by omega)
        exact ⟨R, Ev.congr fz (Ev.step e1 h1), Ev.congr fr (Ev.step r1 h2), h3⟩
      | false =>
        rw [hm] at fz fr
        obtain ⟨R, h1, h2, h3⟩ := read_j1 s 0 hz (by omega)
        exact ⟨R, Ev.congr fz (Ev.step e0 h1), Ev.congr fr (Ev.step r0 h2), h3⟩
    · have fz : ∀ k, zint_Read.f k s = zint_Read.j0 k s 0 false := fun k => by
        unfold zint_Read.f
        rw [if_neg hb, if_neg hp]
      have fr : ∀ k, trammelref02_Read.f k s = trammelref02_Read.j0 k s 0 false := fun k => by
        unfold trammelref02_Read.f
        rw [if_neg hb, if_neg hp]
      obtain ⟨R, h1, h2, h3⟩ := read_j1 s 0 hz (by omega)
      exact ⟨R, Ev.congr fz (Ev.step e0 h1), Ev.congr fr (Ev.step r0 h2), h3⟩
/-- The law on lists and letters alone. -/
theorem texts_ev (n : Bool) (a : List Int) (s : ByteArray) (ha : Limbs a) (la : a.length ≤ 1048576) : Ev (fun k => trammellaw02_ZintTexts.f k n a s) true := by
  obtain ⟨R, h1, h2, h3⟩ := read_ev s
  refine Ev.congr (f := fun k => (zint_Text.f k n a).bind fun t301 => ((trammelref02_Text.f k n a).bind fun t302 => (if t301.toList = t302.toList then ((zint_Read.f k s).bind fun bt303 => ((trammelref02_Read.f k s).bind fun bt310 => (if bt303.2.2.2 = bt310.2.2.2 then (if bt303.2.2.1 = bt310.2.2.1 then ((trammellaw02_eq.f k bt303.1 bt303.2.1 bt310.1 bt310.2.1).bind fun t317 => (some t317)) else (some false)) else (some false)))) else (some false)))) (fun k => ?_) ?_
  · unfold trammellaw02_ZintTexts.f
    rw [own_ev n a (by omega), Option.bind_some]
  · refine Ev.bind (f := fun k t301 => ((trammelref02_Text.f k n a).bind fun t302 => (if t301.toList = t302.toList then ((zint_Read.f k s).bind fun bt303 => ((trammelref02_Read.f k s).bind fun bt310 => (if bt303.2.2.2 = bt310.2.2.2 then (if bt303.2.2.1 = bt310.2.2.1 then ((trammellaw02_eq.f k bt303.1 bt303.2.1 bt310.1 bt310.2.1).bind fun t317 => (some t317)) else (some false)) else (some false)))) else (some false)))) (ztext_ev n a ha la) (Ev.bind (f := fun k t302 => (if (ztxt n a).toList = t302.toList then ((zint_Read.f k s).bind fun bt303 => ((trammelref02_Read.f k s).bind fun bt310 => (if bt303.2.2.2 = bt310.2.2.2 then (if bt303.2.2.1 = bt310.2.2.1 then ((trammellaw02_eq.f k bt303.1 bt303.2.1 bt310.1 bt310.2.1).bind fun t317 => (some t317)) else (some false)) else (some false)))) else (some false))) (r2text_ev n a ha la) ?_)
    refine Ev.congr (f := fun k => (zint_Read.f k s).bind fun bt303 => ((trammelref02_Read.f k s).bind fun bt310 => (if bt303.2.2.2 = bt310.2.2.2 then (if bt303.2.2.1 = bt310.2.2.1 then ((trammellaw02_eq.f k bt303.1 bt303.2.1 bt310.1 bt310.2.1).bind fun t317 => (some t317)) else (some false)) else (some false)))) (fun k => by rw [if_pos rfl]) ?_
    refine Ev.bind (f := fun k bt303 => ((trammelref02_Read.f k s).bind fun bt310 => (if bt303.2.2.2 = bt310.2.2.2 then (if bt303.2.2.1 = bt310.2.2.1 then ((trammellaw02_eq.f k bt303.1 bt303.2.1 bt310.1 bt310.2.1).bind fun t317 => (some t317)) else (some false)) else (some false)))) h1 (Ev.bind (f := fun k bt310 => (if R.2.2.2 = bt310.2.2.2 then (if R.2.2.1 = bt310.2.2.1 then ((trammellaw02_eq.f k R.1 R.2.1 bt310.1 bt310.2.1).bind fun t317 => (some t317)) else (some false)) else (some false))) h2 ?_)
    refine Ev.congr (f := fun k => (trammellaw02_eq.f k R.1 R.2.1 R.1 R.2.1).bind fun t => some t) (fun k => by rw [if_pos rfl, if_pos rfl]) (Ev.bind (f := fun _ t => some t) (eq_ev _ _ (by omega)) (Ev.now _))

end Go.Proofs.Ytgnonaokinfaeaa.PTexts
