/- How an api.Int that a row with a bound on its bulk hands in is read: its limbs are no more than its bulk. -/
import Derived.Test.YtgnonaokinfaeaaReading
import Derived.Deep.CondSized
namespace Go.Proofs.Ytgnonaokinfaeaa.Reading
open Go.ChangeShapes Go.WideShapes Go.RowKit Go.Deep Go.Joins
open Go.Proofs.YtgnonaokinfaeaaW.PrintWords Go.Proofs.Ytgnonaokinfaeaa.Num

theorem one_le {H : Type} (d : DataW H) : 1 ≤ Rows.uptoBulk d := by
  cases d with
  | lit l => cases l <;> simp [Rows.uptoBulk]
  | nil => simp [Rows.uptoBulk]
  | ptr d => simp [Rows.uptoBulk]
  | slice elems spare => simp [Rows.uptoBulk]
  | agg parts => simp [Rows.uptoBulk]
  | iface t d => simp [Rows.uptoBulk]
  | map entries => simp [Rows.uptoBulk]
  | held h => simp [Rows.uptoBulk]
theorem length_le {H : Type} (l : List (DataW H)) : l.length ≤ Rows.uptoBulkAll l := by
  induction l with
  | nil => simp [Rows.uptoBulkAll]
  | cons x r ih =>
    have := one_le x
    simp only [Rows.uptoBulkAll, List.length_cons]
    omega
section
variable {H : Type} {enc : TypeId × Value → H} {W : World} {held : Bool}
theorem read_int_upto {r : Reach} {b0 : Nat} {v : Value} {d : DataW H} {p : List MemPlace} (hv : Value.okWide Try.prog W r b0 25 v) (h : DataW.Trod enc Try.prog W 0 (fun _ => true) held 25 v d p) (hw : ∀ m ∈ d.weights Try.prog 25, m ≤ reachBytes) :
    ∃ (b : Bool) (A : Option Addr) (l : List Int) (c : Nat), v = .agg #[.bool b, .slice A l.length c] ∧ l.length ≤ c ∧ Kd.C (Kd.int .u32) W A l.length l ∧ Limbs l ∧ l.length * 4 ≤ 140737488351232 ∧ l.length ≤ Rows.uptoBulk d := by
  obtain ⟨v0, v1, y0, y1, n, rfl, rfl, rfl, h0, h1⟩ := open_agg2 Try.underlying25 (by kernel_rfl) (by kernel_rfl) hv h
  obtain ⟨b, hb, _⟩ := DataW.trod_bool Try.underlying4 h0
  injection hb with hb
  subst hb
  have hl : ∀ (A : Option Addr) (m c : Nat), v1 = .slice A m c → m ≤ Rows.uptoBulk y1.1 := by
    intro A m c hvv
    rcases open_ints Try.underlying23 Try.underlying44 (by kernel_rfl) h1 with ⟨hcs, _⟩ | ⟨x, len, c', zs, hcs, _, hl, hm, hz, hx, _, _⟩
    · injection hcs with hcs
      rw [hcs] at hvv
      injection hvv with _ e _
      omega
    · injection hcs with hcs
      rw [hcs] at hvv
      injection hvv with _ e _
      subst e
      have hzl : zs.length = c' := by simpa using hz
      rw [hx]
      simp only [Rows.uptoBulk]
      have h5 := length_le (lits (H := H) .u32 (zs.take len))
      simp [lits] at h5
      simp [lits]
      omega
  obtain ⟨A, l, c, rfl, hc, hC, hL, hS⟩ := read_mag h1 (fun m hm => hw m (by simp [DataW.weights, DataW.weightsEach, Try.underlying25]; exact Or.inr hm))
  refine ⟨b, A, l, c, rfl, hc, hC, hL, hS, ?_⟩
  have h6 := hl _ _ _ rfl
  simp only [Rows.uptoBulk, Rows.uptoBulkAll]
  omega
end
end Go.Proofs.Ytgnonaokinfaeaa.Reading
