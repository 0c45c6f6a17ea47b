/- How an api.Int, and its limbs, that a row hands in are read: a bool and a list of limbs, each of 32 bits, that take at most 2^47 - 4096 bytes. -/
import Derived.Test.YtgnonaokinfaeaaRows
import Derived.Test.YtgnonaokinfaeaaWWords
import Derived.Test.YtgnonaokinfaeaaNum
import Derived.WalkKit
import Derived.ProofKit
import Derived.OpenShut
import Derived.ShutString
import Derived.ChangeOld
import Derived.Below
import Derived.SizedLaws
import Derived.ChangeSlices
import Derived.Deep.Slices
import Derived.Deep.Fields
import Derived.ChangeSame
import Derived.Lib.SmallJoins
namespace Go.Proofs.Ytgnonaokinfaeaa.Reading
open Go.ChangeShapes Go.WideShapes Go.RowKit Go.Deep Go.Joins
open Go.Proofs.YtgnonaokinfaeaaW.PrintWords Go.Proofs.Ytgnonaokinfaeaa.Num

theorem weightsAll_mem {H : Type} {P : Program} {e : TypeId} : ∀ {ds : List (DataW H)} {d : DataW H}, d ∈ ds → ∀ n ∈ d.weights P e, n ∈ DataW.weightsAll P e ds
  | d0 :: ds, d, hd, n, hn => by
    simp only [DataW.weightsAll, List.mem_append]
    rcases List.mem_cons.1 hd with h | h
    · subst h
      exact Or.inl hn
    · exact Or.inr (weightsAll_mem h n hn)
  | [], _, hd, _, _ => by cases hd

section
variable {H : Type} {enc : TypeId × Value → H} {W : World} {held : Bool}
theorem read_mag {n : Nat} {v : Value} {y : DataW H × List MemPlace} (h : DataW.trod enc Try.prog W 0 (fun _ => true) held n 23 [v] = some y) (hw : ∀ m ∈ y.1.weights Try.prog 23, m ≤ reachBytes) :
    ∃ (A : Option Addr) (l : List Int) (c : Nat), v = .slice A l.length c ∧ l.length ≤ c ∧ Kd.C (Kd.int .u32) W A l.length l ∧ Limbs l ∧ l.length * 4 ≤ 140737488351232 := by
  rcases open_ints Try.underlying23 Try.underlying44 (by kernel_rfl) h with ⟨hcs, _⟩ | ⟨x, len, c, zs, hcs, _, hl, hm, hz, hx, hcell, hwz⟩
  · injection hcs with hcs
    subst hcs
    refine ⟨none, [], 0, rfl, Nat.le_refl _, ?_, fun x hx => (by cases hx), by simp⟩
    exact ⟨rfl, by simp, fun hn => absurd hn (by simp)⟩
  · injection hcs with hcs
    subst hcs
    have hzl : zs.length = c := by simpa using hz
    have hrow := ReadsInt.ofRowC (k := .u32) (w := W) (a := some x) (len := len) (cap := c) (zs := zs) (.inr ⟨x, rfl, hl, hm, hzl, hcell, hwz⟩)
    obtain ⟨l, rfl, hr, hml, hwf, hlc⟩ := hrow
    refine ⟨some x, l, c, rfl, hlc, Kd.C_of_reads (d := (0 : Int)) (h1 := fun _ => rfl) hr, fun z hzm => ?_, ?_⟩
    · have := hwf z hzm
      simp [Lit.wf, IntKind.min, IntKind.max, IntKind.signed, IntKind.bits] at this
      omega
    · have h2 : ((zs.take l.length).length + (zs.drop l.length).length) * Try.prog.bytesOf 44 ≤ reachBytes := by
        refine hw _ ?_
        rw [hx]
        simp [DataW.weights, Try.underlying23, lits]
      have h3 : Try.prog.bytesOf 44 = 4 := by kernel_rfl
      rw [h3] at h2
      have h4 : (zs.take l.length).length + (zs.drop l.length).length = zs.length := by simp; omega
      rw [h4, hzl] at h2
      have h5 : reachBytes = 140737488351232 := rfl
      omega

theorem read_int {r : Reach} {b0 : Nat} {v : Value} {d : DataW H} {p : List MemPlace} (hv : Value.okWide Try.prog W r b0 25 v) (h : DataW.Trod enc Try.prog W 0 (fun _ => true) held 25 v d p) (hw : ∀ m ∈ d.weights Try.prog 25, m ≤ reachBytes) :
    ∃ (b : Bool) (A : Option Addr) (l : List Int) (c : Nat), v = .agg #[.bool b, .slice A l.length c] ∧ l.length ≤ c ∧ Kd.C (Kd.int .u32) W A l.length l ∧ Limbs l ∧ l.length * 4 ≤ 140737488351232 := by
  obtain ⟨v0, v1, y0, y1, n, rfl, rfl, rfl, h0, h1⟩ := open_agg2 Try.underlying25 (by kernel_rfl) (by kernel_rfl) hv h
  obtain ⟨b, hb, _⟩ := DataW.trod_bool Try.underlying4 h0
  injection hb with hb
  subst hb
  obtain ⟨A, l, c, rfl, hc, hC, hL, hS⟩ := read_mag h1 (fun m hm => hw m (by simp [DataW.weights, DataW.weightsEach, Try.underlying25]; exact Or.inr hm))
  exact ⟨b, A, l, c, rfl, hc, hC, hL, hS⟩
end
end Go.Proofs.Ytgnonaokinfaeaa.Reading
