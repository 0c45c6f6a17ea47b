/- The row of ZintTotals, out of a plain statement on lists: for every list of numbers the law returns true and leaves the list as it was. -/
import Derived.Test.YtgnonaokinfaeaaReading
import Derived.Test.YtgnonaokinfaeaaTotalsA7
namespace Go.Proofs.Ytgnonaokinfaeaa.PTotals
open Go.ChangeShapes Go.WideShapes Go.ChangeAt Go.RowKit Go.Deep
open Go.Proofs.YtgnonaokinfaeaaW.PrintWords Go.Proofs.Ytgnonaokinfaeaa.Reading Go.Proofs.Ytgnonaokinfaeaa.Num
set_option linter.unusedVariables false

/-- What is left to prove of ZintTotals: lists alone. -/
def Pure : Prop := ∀ xs : List S25, xs.length * 32 ≤ 140737488351232 → (∀ x ∈ xs, Limbs x.f1 ∧ x.f1.length * 4 ≤ 140737488351232) → ∃ k, trammellaw02_ZintTotals.f k xs = some true

theorem list_of {α : Type} (Q : Nat → α → Prop) : ∀ n : Nat, (∀ i, i < n → ∃ x, Q i x) → ∃ xs : List α, xs.length = n ∧ ∀ i x, xs[i]? = some x → Q i x
  | 0, _ => ⟨[], rfl, fun i x h => by simp at h⟩
  | n + 1, h => by
    obtain ⟨xs, hl, hx⟩ := list_of Q n (fun i hi => h i (by omega))
    obtain ⟨x, hq⟩ := h n (by omega)
    refine ⟨xs ++ [x], by simp [hl], fun i y hy => ?_⟩
    rcases Nat.lt_or_ge i xs.length with hi | hi
    · rw [List.getElem?_append_left hi] at hy
      exact hx i y hy
    · rw [List.getElem?_append_right hi] at hy
      have hi0 : i - xs.length = 0 := by
        have := (List.getElem?_eq_some_iff.1 hy).1
        simp at this
        omega
      rw [hi0] at hy
      injection hy with hy
      subst hy
      have : i = n := by omega
      rw [this]
      exact hq

theorem read_list {H : Type} {enc : TypeId × Value → H} {W : World} {held : Bool} {n : Nat} {cs : List Value} {y : DataW H × List MemPlace} (h : DataW.trod enc Try.prog W 0 (fun _ => true) held n 22 cs = some y) (hw : ∀ m ∈ y.1.weights Try.prog 22, m ≤ reachBytes) :
    ∃ (A : Option Addr) (xs : List S25) (c : Nat), cs = [.slice A xs.length c] ∧ xs.length ≤ c ∧ Kd.C k25 W A xs.length xs ∧ xs.length * 32 ≤ 140737488351232 ∧ ∀ x ∈ xs, Limbs x.f1 ∧ x.f1.length * 4 ≤ 140737488351232 := by
  rcases open_slice Try.underlying22 h with ⟨hcs, _⟩ | ⟨a, len, cap, m, n1, D, Pl, rfl, _, hl, hm, hmm, rfl, hi⟩
  · exact ⟨none, [], 0, hcs, Nat.le_refl _, ⟨rfl, by simp, fun hn => absurd hn (by simp)⟩, by simp, fun x hx => by cases hx⟩
  · have hmc : m = cap := by simpa using hmm
    subst hmc
    have hwD : ∀ i, i < len → ∀ q ∈ (D i).weights Try.prog 25, q ≤ reachBytes := by
      intro i hil q hq
      refine hw q ?_
      simp only [DataW.weights, Try.underlying22, List.mem_cons, List.mem_append]
      exact Or.inr (Or.inl (weightsAll_mem (List.mem_map.2 ⟨i, List.mem_range.2 hil, rfl⟩) q hq))
    have hel : ∀ i, i < len → ∃ x : S25, (Limbs x.f1 ∧ x.f1.length * 4 ≤ 140737488351232) ∧ ∃ c, c.length = 2 ∧ k25.K W x c ∧ ∀ j u, c[j]? = some u → W.cell? (a.add (i * 2 + j)) = some u := by
      intro i hil
      obtain ⟨cs', hc, ht⟩ := hi i (by omega)
      have h2 : Try.prog.cellsOf 25 = 2 := by kernel_rfl
      rw [h2] at hc
      obtain ⟨_, hcl, hat⟩ := World.cells?_some hc
      obtain ⟨ys, n2, _, hx, _, hlen, hf⟩ := DataW.trod_struct Try.underlying25 ht
      have hone : oneCellFields Try.prog #[{ name := "Neg", type := 4, offset := 0, embedded := false, tag := "", pkgPath := "", byteOffset := 0 }, { name := "Mag", type := 23, offset := 1, embedded := false, tag := "", pkgPath := "", byteOffset := 8 }] = true := by kernel_rfl
      obtain ⟨o0, k0⟩ := hone_of hone 0 _ rfl
      obtain ⟨o1, k1⟩ := hone_of hone 1 _ rfl
      match cs', hcl with
      | [v0, v1], _ =>
        match ys, hlen with
        | [y0, y1], _ =>
          have t0 := hf 0 _ rfl
          have t1 := hf 1 _ rfl
          rw [o0, k0] at t0
          rw [o1, k1] at t1
          have t0' : DataW.trod enc Try.prog W 0 (fun _ => true) held n2 4 [v0] = some y0 := by simpa using t0
          have t1' : DataW.trod enc Try.prog W 0 (fun _ => true) held n2 23 [v1] = some y1 := by simpa using t1
          simp only [Prod.mk.injEq] at hx
          have hwi := hwD i hil
          rw [hx.1] at hwi
          obtain ⟨b, hb, _⟩ := DataW.trod_bool Try.underlying4 t0'
          injection hb with hb
          subst hb
          obtain ⟨A, l, c, rfl, hlc, hC, hL, hS⟩ := read_mag t1' (fun q hq => hwi q (by simp [DataW.weights, DataW.weightsEach, Try.underlying25]; exact Or.inr hq))
          refine ⟨⟨b, l⟩, ⟨hL, hS⟩, [.bool b, .slice A l.length c], rfl, k25_mk W ⟨b, l⟩ hlc hC, fun j u hu => ?_⟩
          have hj : j < 2 := (List.getElem?_eq_some_iff.1 hu).1
          have := hat j hj
          rw [← Go.Deep.add_add, this]
          exact hu
    obtain ⟨xs, rfl, hxs⟩ := list_of _ len hel
    refine ⟨some a, xs, m, rfl, hl, ⟨rfl, by unfold maxLen at hm; omega, fun _ => ⟨a, rfl, fun j p hj => ?_⟩⟩, ?_, fun x hx => ?_⟩
    · obtain ⟨_, c, hc1, hc2, hc3⟩ := hxs j p hj
      exact ⟨c, hc1, hc2, hc3⟩
    · have h3 := hw _ (by simp only [DataW.weights, Try.underlying22]; exact List.mem_cons_self)
      have h4 : Try.prog.bytesOf 25 = 32 := by kernel_rfl
      have h5 : reachBytes = 140737488351232 := rfl
      rw [h4] at h3
      simp at h3
      omega
    · obtain ⟨j, hj⟩ := List.getElem?_of_mem hx
      exact (hxs j x hj).1

theorem own : ownKnob Try.prog.godebug = none := by kernel_rfl
theorem laidOut : laidOutB Try.prog = true := by kernel_rfl

set_option maxRecDepth 100000 in
theorem lifted (Q : Pure) (os : Os) (started : os.Started) (H : Type) (enc : TypeId × Value → H) :
    ReturnsInHanded {} Try.checked os 3 .any (Rows.zintTotalsSpec.pre6 enc Try.prog Try.f3 Rows.zintTotalsRow.domain false) (Rows.zintTotalsSpec.post enc Try.prog Try.f3 false true false false) := by
  refine returnsInHanded_of_change_sized (C := Try.checked) own started (by kernel_rfl) Try.func3
    (ChangeSpec.witness6 (enc := enc) (C := Try.checked) false ⟨#[], #[.slice none 0 0], []⟩ 8 (by kernel_rfl) (by kernel_rfl) (by kernel_rfl) (by kernel_rfl)) ?_
  intro W base args ds gs before hval0 hW hcnd hsz0 _
  have hsz : (DataW.weightsEach Try.prog (Try.f3.params.toList ++ Rows.zintTotalsSpec.plain.varTypes Try.prog) (ds ++ gs)).all (· ≤ reachBytes) = true := hsz0
  have hval : ∀ (j : Nat) t v, Try.f3.params[j]? = some t → args[j]? = some v → Value.okWide Try.prog W .any base t v := hval0
  have hW' := hW
  obtain ⟨p, q, hA0, hV, rfl, hfz, hnd⟩ := hW
  have hA : DataW.TrodAll enc Try.prog W 0 (fun _ => true) true Try.f3.params.toList args.toList ds p := hA0
  rw [Try.params3] at hA hval hsz
  obtain ⟨v0, vs0, d0, ds0, p0, q0, hargs, rfl, rfl, h0, r0⟩ := trodAll_cons hA
  obtain ⟨rfl, rfl, rfl⟩ := trodAll_nil r0
  obtain rfl : args = #[v0] := by cases args; simp_all
  obtain ⟨rfl, rfl⟩ := trodVars_none hV
  obtain ⟨a0, len0, cap0, rfl⟩ := okWide_slice Try.underlying22 (hval 0 22 v0 rfl rfl)
  have k0 := h0
  have lt0 : ∀ x ∈ p0, x.block < W.heap.size := by
    obtain ⟨m, hm⟩ := k0
    exact DataW.trod_lt m _ _ _ hm
  have hw0 : ∀ m ∈ d0.weights Try.prog 22, m ≤ reachBytes := fun m hm => by
    have := List.all_eq_true.1 hsz m (DataW.weights_mem_each (j := 0) rfl rfl m hm)
    simpa using this
  obtain ⟨fuel, hf⟩ := h0
  obtain ⟨A, xs, c, hcs, hc, hC, hS, hL⟩ := read_list hf hw0
  have hcs' : Value.slice a0 len0 cap0 = .slice A xs.length c := by simpa [Value.cells] using hcs
  injection hcs' with e1 e2 e3
  subst e1
  subst e2
  subst e3
  obtain ⟨k, hk⟩ := Q xs hS hL
  clear hA0 hval0 hsz0 hsz
  refine (trammellaw02_ZintTotals.calls k _ _ xs true W hC hc hk).mono fun e W' ⟨he, bel⟩ => ?_
  subst he
  exact ⟨_, rfl, _, _, _, [], _, [], hW', trodAll_mk1 (shut_bool Try.underlying4 _), (trodAll_cons_mk (Below.trod laidOut (by kernel_rfl) (of_decide_eq_true (by kernel_rfl)) k0 bel lt0) trodAll_mk0), rfl, bel.frame _, fun h => by cases h⟩

theorem over (Q : Pure) : Rows.zintTotalsRow.holds Try.pinned (OpenSpec.ofChange Rows.zintTotalsSpec) :=
  OpenClaim.holds_of_wide 3 Try.f3 rfl rfl rfl rfl rfl rfl rfl ⟨rfl, rfl, rfl, rfl, rfl⟩ rfl rfl rfl rfl rfl (by kernel_rfl) Try.func3 (by kernel_rfl)
    (of_decide_eq_true (by kernel_rfl)) (by unfold Func.isWrapper; first | (rw [if_pos (by decide +kernel)]; kernel_rfl) | (rw [if_neg (by decide +kernel)]; exact ⟨rfl, rfl⟩))
    (fun os started H enc _ => lifted Q os started H enc)
theorem zintTotals_of (Q : Pure) : Rows.ZintTotalsSaid := over Q
end Go.Proofs.Ytgnonaokinfaeaa.PTotals
