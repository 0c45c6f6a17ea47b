/- Plain lemmas on the printed functions of ZintTexts: what each comes to. -/
import Derived.Test.YtgnonaokinfaeaaTextsB1
import Derived.Test.YtgnonaokinfaeaaTextsA9
import Derived.Test.YtgnonaokinfaeaaSteps
namespace Go.Proofs.Ytgnonaokinfaeaa.PTexts
open Go.RowKit Go.Proofs.YtgnonaokinfaeaaW.PrintWords Go.Proofs.YtgnonaokinfaeaaW.PrintMore Go.Proofs.Ytgnonaokinfaeaa.Num
set_option linter.unusedVariables false

theorem bt_ext (s : ByteArray) (a i : Nat) (h : a + i < s.size) : bt (s.extract a s.size) (i : Int) = bt s ((a + i : Nat) : Int) := by
  have h1 : (i : Int).toNat < (s.extract a s.size).size := by rw [ByteArray.size_extract]; omega
  have h2 : ((a + i : Nat) : Int).toNat < s.size := by omega
  rw [← bt_at _ _ h1, ← bt_at _ _ h2]
  rw [ByteArray.getElem_extract]
  rfl
/-- A letter that may not stand at place i of a number that begins at a. -/
def bad (s : ByteArray) (a i : Nat) : Prop := bt s (i : Int) < 48 ∨ bt s (i : Int) > 57 ∨ (i = a + 1 ∧ bt s (a : Int) = 48)
instance (s : ByteArray) (a i : Nat) : Decidable (bad s a i) := by unfold bad; infer_instance
/-- The first such letter. -/
def scan (s : ByteArray) (a : Nat) : Nat → Nat → Option Nat
  | 0, _ => none
  | d + 1, i => if bad s a i then some i else scan s a d (i + 1)
theorem scan_none (s : ByteArray) (a : Nat) : ∀ (d i : Nat), scan s a d i = none → ∀ j, i ≤ j → j < i + d → 48 ≤ bt s (j : Int) ∧ bt s (j : Int) ≤ 57
  | 0, i, _, j, h0, h1 => by omega
  | d + 1, i, h, j, h0, h1 => by
    unfold scan at h
    by_cases hb : bad s a i
    · rw [if_pos hb] at h
      cases h
    · rw [if_neg hb] at h
      rcases Nat.lt_or_ge i j with h2 | h2
      · exact scan_none s a d (i + 1) h j h2 (by omega)
      · obtain rfl : i = j := by omega
        unfold bad at hb
        constructor
        · exact Int.not_lt.1 fun h => hb (Or.inl h)
        · exact Int.not_lt.1 fun h => hb (Or.inr (Or.inl h))
/-- The worth of the figures from i on, behind what is read. -/
def dec (s : ByteArray) : Nat → Nat → Nat → Nat
  | 0, _, V => V
  | d + 1, i, V => dec s d (i + 1) (V * 10 + (bt s (i : Int) - 48).toNat)
theorem dec_lin (s : ByteArray) : ∀ (d i V : Nat), dec s d i V = V * 10 ^ d + dec s d i 0
  | 0, i, V => by simp [dec]
  | d + 1, i, V => by
    simp only [dec]
    rw [dec_lin s d (i + 1) (V * 10 + (bt s (i : Int) - 48).toNat), dec_lin s d (i + 1) (0 * 10 + (bt s (i : Int) - 48).toNat), Nat.pow_succ, Nat.zero_mul, Nat.zero_add, Nat.add_mul, Nat.mul_comm (10 ^ d) 10, Nat.mul_assoc, Nat.add_assoc]
theorem dec_add (s : ByteArray) : ∀ (c d i V : Nat), dec s (c + d) i V = dec s d (i + c) (dec s c i V)
  | 0, d, i, V => by simp [dec]
  | c + 1, d, i, V => by
    rw [show c + 1 + d = (c + d) + 1 by omega]
    simp only [dec]
    rw [dec_add s c d (i + 1), show i + 1 + c = i + (c + 1) by omega]
theorem dec_lt (s : ByteArray) : ∀ (d i V j : Nat), (∀ x, i ≤ x → x < i + d → 48 ≤ bt s (x : Int) ∧ bt s (x : Int) ≤ 57) → V < 10 ^ j → dec s d i V < 10 ^ (j + d)
  | 0, i, V, j, _, h => by simpa [dec] using h
  | d + 1, i, V, j, hg, h => by
    have h1 := hg i (Nat.le_refl _) (by omega)
    have h2 := dec_lt s d (i + 1) (V * 10 + (bt s (i : Int) - 48).toNat) (j + 1) (fun x hx hx2 => hg x (by omega) (by omega)) (by rw [Nat.pow_succ]; omega)
    rw [show j + 1 + d = j + (d + 1) by omega] at h2
    exact h2
/-- What the reading of a text comes to, from place a on. -/
def told (s : ByteArray) (a : Nat) : Bool × List Int × Int × Int :=
  match scan s a (s.size - a) a with
  | some j => (false, [], (j : Int), 4)
  | none => if a = s.size then (false, [], (a : Int), 4) else ((rep (ival ((a : Int) == 1) (toL (dec s (s.size - a) a 0)))).1, (rep (ival ((a : Int) == 1) (toL (dec s (s.size - a) a 0)))).2, 0, 0)
theorem step_len (V Q v m : Nat) (hp : Q < 4294967296) (hv : v < 4294967296) (hl : (toL V).length ≤ m) : (toL (V * Q + v)).length ≤ m + 2 := by
  have e1 : Limbs [(Q : Int)] := Limbs.cons (by omega) (by omega) Limbs.nil
  have e2 : Limbs [(v : Int)] := Limbs.cons (by omega) (by omega) Limbs.nil
  have e3 : val [(Q : Int)] = Q := by simp [val]
  have e4 : val [(v : Int)] = v := by simp [val]
  have h1 := mul_len (limbs_toL V) e1
  rw [val_toL, e3] at h1
  have h2 := add_len (limbs_toL (V * Q)) e2
  rw [val_toL, e4] at h2
  simp only [List.length_singleton] at h1 h2
  omega

theorem zread_scan (s : ByteArray) (a : Nat) (R : Bool × List Int × Int × Int) (hz : s.size ≤ 65536) : ∀ (d i : Nat), s.size - i = d → i ≤ s.size → a ≤ i →
    (scan s a d i = none → Ev (fun k => if (a : Int) = (s.size : Int) then some (false, [], (a : Int), 4) else zint_Read.l1 k s (a : Int) [] (a : Int)) R) →
    Ev (fun k => zint_Read.l0 k s (a : Int) (i : Int)) (match scan s a d i with | some j => (false, [], (j : Int), 4) | none => R) := by
  intro d
  induction d with
  | zero =>
    intro i hd hi ha hR
    refine Ev.step (f := fun k => if (a : Int) = (s.size : Int) then some (false, [], (a : Int), 4) else zint_Read.l1 k s (a : Int) [] (a : Int)) (fun k => ?_) (hR rfl)
    simp only [zint_Read.l0]
    rw [if_neg (show ¬ (i : Int) < (s.size : Int) by omega)]
  | succ d ih =>
    intro i hd hi ha hR
    have h := fun hb : ¬ bad s a i => ih (i + 1) (by omega) (by omega) (by omega) (fun hn => hR (by rw [scan, if_neg hb]; exact hn))
    have w1 : wrap64 ((i : Int) + 1) = ((i + 1 : Nat) : Int) := by rw [w64 _ (by omega) (by omega)]; rfl
    have w2 : wrap64 ((a : Int) + 1) = ((a + 1 : Nat) : Int) := by rw [w64 _ (by omega) (by omega)]; rfl
    have f1 : (i : Int) < (s.size : Int) := by omega
    have f2 : (0 : Int) ≤ (i : Int) := by omega
    have f3 : (0 : Int) ≤ (a : Int) := by omega
    have f4 : (a : Int) < (s.size : Int) := by omega
    by_cases b1 : bt s (i : Int) < 48
    · have hb : bad s a i := Or.inl b1
      rw [scan, if_pos hb]
      refine Ev.step (f := fun _ => some (false, [], (i : Int), 4)) (fun k => ?_) (Ev.now _)
      simp only [zint_Read.l0]
      rw [if_pos f1, if_pos f2, if_pos b1]
    · by_cases b2 : bt s (i : Int) > 57
      · have hb : bad s a i := Or.inr (Or.inl b2)
        rw [scan, if_pos hb]
        refine Ev.step (f := fun _ => some (false, [], (i : Int), 4)) (fun k => ?_) (Ev.now _)
        simp only [zint_Read.l0]
        rw [if_pos f1, if_pos f2, if_neg b1, if_pos b2]
      · by_cases b3 : i = a + 1
        · by_cases b4 : bt s (a : Int) = 48
          · have hb : bad s a i := Or.inr (Or.inr ⟨b3, b4⟩)
            rw [scan, if_pos hb]
            refine Ev.step (f := fun _ => some (false, [], (i : Int), 4)) (fun k => ?_) (Ev.now _)
            simp only [zint_Read.l0, w2]
            rw [if_pos f1, if_pos f2, if_neg b1, if_neg b2, if_pos (show (i : Int) = ((a + 1 : Nat) : Int) by omega), if_pos f3, if_pos f4, if_pos b4]
          · have hb : ¬ bad s a i := fun hb => by
              rcases hb with hb | hb | hb
              · exact b1 hb
              · exact b2 hb
              · exact b4 hb.2
            rw [scan, if_neg hb]
            refine Ev.step (fun k => ?_) (h hb)
            simp only [zint_Read.l0, w1, w2]
            rw [if_pos f1, if_pos f2, if_neg b1, if_neg b2, if_pos (show (i : Int) = ((a + 1 : Nat) : Int) by omega), if_pos f3, if_pos f4, if_neg b4]
        · have hb : ¬ bad s a i := fun hb => by
            rcases hb with hb | hb | hb
            · exact b1 hb
            · exact b2 hb
            · exact b3 hb.1
          rw [scan, if_neg hb]
          refine Ev.step (fun k => ?_) (h hb)
          simp only [zint_Read.l0, w1, w2]
          rw [if_pos f1, if_pos f2, if_neg b1, if_neg b2, if_neg (show ¬ (i : Int) = ((a + 1 : Nat) : Int) by omega)]
theorem nines_ev (c : Nat) (hc : c ≤ 9) : ∀ k, zint_nines.f k (c : Int) = some ((10 ^ c : Nat) : Int) := by
  intro k
  match c, hc with
  | 0, _ => rfl
  | 1, _ => rfl
  | 2, _ => rfl
  | 3, _ => rfl
  | 4, _ => rfl
  | 5, _ => rfl
  | 6, _ => rfl
  | 7, _ => rfl
  | 8, _ => rfl
  | 9, _ => rfl
  | c + 10, h => exact absurd h (by omega)
theorem pow9 {c : Nat} (hc : c ≤ 9) : 10 ^ c ≤ 1000000000 := Nat.pow_le_pow_right (n := 10) (by decide) hc
theorem zread_l2 (s : ByteArray) (a : Nat) (V c : Nat) (R : Bool × List Int × Int × Int) (hc : c ≤ 9) (hz : s.size ≤ 65536) (hV : (toL V).length ≤ 1048576) : ∀ (e j i v : Nat), j + e = c → i + e ≤ s.size → v < 10 ^ j → (∀ x, i ≤ x → x < i + e → 48 ≤ bt s (x : Int) ∧ bt s (x : Int) ≤ 57) →
    Ev (fun k => zint_Read.l1 k s (a : Int) (toL (V * 10 ^ c + dec s e i v)) ((i + e : Nat) : Int)) R →
    Ev (fun k => zint_Read.l2 k s (a : Int) (toL V) (i : Int) (c : Int) (v : Int) (c : Int) (j : Int)) R := by
  intro e
  induction e with
  | zero =>
    intro j i v hj hi hv hg hR
    have hp := pow9 hc
    have hj2 : j = c := by omega
    rw [hj2] at hv
    simp only [dec, Nat.add_zero] at hR
    generalize hq : 10 ^ c = Q at hp hv hR
    have e1 : Limbs [(Q : Int)] := Limbs.cons (by omega) (by omega) Limbs.nil
    have e2 : Limbs [(v : Int)] := Limbs.cons (by omega) (by omega) Limbs.nil
    have h1 := nmul_ev (toL V) [(Q : Int)] (limbs_toL V) e1 (by simp; omega)
    have l1 := mul_len (limbs_toL V) e1
    have e3 : val [(Q : Int)] = Q := by simp [val]
    have e4 : val [(v : Int)] = v := by simp [val]
    rw [val_toL, e3] at h1 l1
    have h2 := nadd_ev (toL (V * Q)) [(v : Int)] (limbs_toL _) e2 (by simp at l1; omega) (by simp)
    rw [val_toL, e4] at h2
    refine Ev.step (f := fun k => (nat_Mul.f k (toL V) [(Q : Int)]).bind fun t => (nat_Add.f k t [(v : Int)]).bind fun u => zint_Read.l1 k s (a : Int) u (i : Int)) (fun k => ?_) (Ev.bind (f := fun k t => (nat_Add.f k t [(v : Int)]).bind fun u => zint_Read.l1 k s (a : Int) u (i : Int)) h1 (Ev.bind (f := fun k u => zint_Read.l1 k s (a : Int) u (i : Int)) h2 hR))
    simp only [zint_Read.l2]
    rw [if_neg (show ¬ (j : Int) < (c : Int) by omega), nines_ev c hc, Option.bind_some, hq]
  | succ e ih =>
    intro j i v hj hi hv hg hR
    have hgi := hg i (Nat.le_refl _) (by omega)
    have hp : 10 ^ j ≤ 10 ^ 8 := Nat.pow_le_pow_right (by decide) (by omega)
    have hp2 : (10 : Nat) ^ 8 = 100000000 := rfl
    rw [hp2] at hp
    have hv1 : v * 10 + (bt s (i : Int) - 48).toNat < 10 ^ (j + 1) := by rw [Nat.pow_succ]; omega
    simp only [dec] at hR
    rw [show i + (e + 1) = i + 1 + e by omega] at hR
    have h := ih (j + 1) (i + 1) (v * 10 + (bt s (i : Int) - 48).toNat) (by omega) (by omega) hv1 (fun x h1 h2 => hg x (by omega) (by omega)) hR
    have f1 : (j : Int) < (c : Int) := by omega
    have f2 : (0 : Int) ≤ (i : Int) := by omega
    have f3 : (i : Int) < (s.size : Int) := by omega
    have w1 : wrap64 ((i : Int) + 1) = ((i + 1 : Nat) : Int) := w64 _ (by omega) (by omega)
    have w2 : wrap64 ((j : Int) + 1) = ((j + 1 : Nat) : Int) := by
      clear w1
      exact w64 _ (by omega) (by omega)
    have d1 : ((10 * (v : Int)) % 4294967296 + (bt s (i : Int) - 48) % 256) % 4294967296 = ((v * 10 + (bt s (i : Int) - 48).toNat : Nat) : Int) := by
      clear w1 w2 h hR hV ih
      have hv2 : v < 100000000 := by omega
      clear hv hv1 hp hg
      omega
    refine Ev.step (fun k => ?_) h
    simp only [zint_Read.l2, w1, w2, d1]
    rw [if_pos f1, if_pos f2, if_pos f3]
theorem zread_l1 (s : ByteArray) (a : Nat) (hz : s.size ≤ 65536) : ∀ (d i V : Nat), s.size - i = d → i ≤ s.size → (∀ x, i ≤ x → x < s.size → 48 ≤ bt s (x : Int) ∧ bt s (x : Int) ≤ 57) → (toL V).length ≤ 2 * i →
    Ev (fun k => zint_Read.l1 k s (a : Int) (toL V) (i : Int)) ((rep (ival ((a : Int) == 1) (toL (dec s d i V)))).1, (rep (ival ((a : Int) == 1) (toL (dec s d i V)))).2, 0, 0) := by
  intro d
  induction d using Nat.strongRecOn with
  | _ d ih =>
    intro i V hd hi hg hl
    rcases Nat.eq_zero_or_pos d with h0 | h0
    · subst h0
      simp only [dec]
      refine Ev.step (f := fun k => (zint_made.f k ((a : Int) == 1) (toL V)).bind fun bt => some (bt.1, bt.2, 0, 0)) (fun k => ?_) (Ev.bind (f := fun _ bt => some (bt.1, bt.2, 0, 0)) (made_rep _ _ (limbs_toL V) (by omega)) (Ev.now _))
      simp only [zint_Read.l1]
      rw [if_neg (show ¬ (i : Int) < (s.size : Int) by omega)]
    · obtain ⟨c, hcd⟩ : ∃ c, c = min 9 d := ⟨_, rfl⟩
      have hc9 : c ≤ 9 := by omega
      have hc0 : 0 < c := by omega
      have hcd2 : c ≤ d := by omega
      have hp := pow9 hc9
      have hd0 := dec_lt s c i 0 0 (fun x h1 h2 => hg x h1 (by omega)) (by decide)
      rw [Nat.zero_add] at hd0
      have hn := step_len V (10 ^ c) (dec s c i 0) (2 * i) (by omega) (by omega) hl
      have h1 := ih (d - c) (by omega) (i + c) (V * 10 ^ c + dec s c i 0) (by omega) (by omega) (fun x h1 h2 => hg x (by omega) h2) (by omega)
      have he : dec s (d - c) (i + c) (V * 10 ^ c + dec s c i 0) = dec s d i V := by
        rw [← dec_lin, ← dec_add, show c + (d - c) = d by omega]
      rw [he] at h1
      have h2 := zread_l2 s a V c _ hc9 hz (by omega) c 0 i 0 (by omega) (by omega) (by decide) (fun x h1 h2 => hg x h1 (by omega)) h1
      have hm : mn 9 (wrap64 ((s.size : Int) - (i : Int))) = (c : Int) := by
        rw [w64 _ (by omega) (by omega)]
        unfold mn
        split <;> omega
      refine Ev.step (fun k => ?_) h2
      simp only [zint_Read.l1, hm]
      rw [if_pos (show (i : Int) < (s.size : Int) by omega)]
      rfl
theorem ztail_ev (s : ByteArray) (a : Nat) (hz : s.size ≤ 65536) (ha : a ≤ s.size) : Ev (fun k => zint_Read.l0 k s (a : Int) (a : Int)) (told s a) := by
  unfold told
  refine zread_scan s a _ hz (s.size - a) a rfl ha (Nat.le_refl _) (fun hn => ?_)
  by_cases hs : a = s.size
  · rw [if_pos hs]
    exact Ev.congr (fun k => by rw [if_pos (by omega)]) (Ev.now _)
  · rw [if_neg hs]
    have h := zread_l1 s a hz (s.size - a) a 0 rfl ha (fun x h1 h2 => scan_none _ _ _ _ hn x h1 (by omega)) (by simp [toL_zero])
    rw [toL_zero] at h
    exact Ev.congr (fun k => by rw [if_neg (by omega)]) h

end Go.Proofs.Ytgnonaokinfaeaa.PTexts
