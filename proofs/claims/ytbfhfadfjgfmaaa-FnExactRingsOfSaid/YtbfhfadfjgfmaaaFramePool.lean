/- How a pool opens, as an argument of a law. -/
import Derived.Test.YtbfhfadfjgfmaaaFrame
import Derived.Test.YtbfhfadfjgfmaaaPools
import Derived.Deep.Slices
import Derived.ChangeOld
set_option linter.unusedVariables false
set_option linter.unusedSimpArgs false
set_option linter.unusedSectionVars false
namespace Go.Proofs.Ytbfhfadfjgfmaaa
open Go.ChangeShapes Go.WideShapes Go.ChangeAt Go.RowKit
section
variable {H : Type} {enc : TypeId × Value → H} {P : Program}
theorem open_pool0 {w : World} {r : Reach} {b0 base : Nat} {spare : Nat → Bool} {held : Bool} {t e i : TypeId} {v : Value} {d : DataW H} {p : List MemPlace} (ht : P.underlying t = some (.slice e)) (he : P.underlying e = some (.array 6 i)) (hi : P.underlying i = some (.int .i64))
    (hci : P.cellsOf i = 1) (hc6 : P.cellsOf e = 6) (hv : Value.okWide P w r b0 t v) (h : DataW.Trod enc P w base spare held t v d p) :
    ∃ o n c x, v = poolV o n c ∧ n ≤ maxLen ∧ PoolAt w o n x := by
  obtain ⟨a0, len0, cap0, rfl⟩ := okWide_slice ht hv
  obtain ⟨fuel, hf⟩ := h
  rcases Go.Deep.open_slice ht hf with ⟨h0, _⟩ | ⟨a, len, cap, m, n, D, Pl, h0, hb, hl, hm, hmm, _, hx⟩
  · simp [Value.cells] at h0
    obtain ⟨rfl, rfl, rfl⟩ := h0
    exact ⟨none, 0, 0, fun _ _ => 0, rfl, by omega, fun i hi => by omega⟩
  · simp [Value.cells] at h0
    obtain ⟨rfl, rfl, rfl⟩ := h0
    rw [hc6] at hx
    have key : ∀ k, ∃ y : Nat → Int, k < len0 → a.block < w.heap.size ∧ ∀ j, j < 6 → w.cell? ((a.add (k * 6)).add j) = some (I y j) := by
      intro k
      by_cases hk : k < len0
      · obtain ⟨cs, h1, h2⟩ := hx k (by rw [hmm]; split <;> omega)
        obtain ⟨y, hy, _⟩ := ints_of_trod he hi hci hc6 h2
        obtain ⟨_, _, hg⟩ := World.cells?_some h1
        have hbl := World.cells?_block h1 (by omega)
        rw [add_block] at hbl
        refine ⟨y, fun _ => ⟨hbl, fun j hj => ?_⟩⟩
        rw [hg j hj, hy]
        simp [hj]
      · exact ⟨fun _ => 0, fun h => absurd h hk⟩
    exact ⟨some a, len0, cap0, fun k => (key k).choose, rfl, by omega, fun k hk => ⟨a, rfl, ((key k).choose_spec hk).1, ((key k).choose_spec hk).2⟩⟩
end
section
variable {H : Type} {enc : TypeId × Value → H}
set_option maxRecDepth 100000 in
theorem open_pool {w : World} {r : Reach} {b0 base : Nat} {spare : Nat → Bool} {held : Bool} {v : Value} {d : DataW H} {p : List MemPlace} (hv : Value.okWide Try.prog w r b0 22 v) (h : DataW.Trod enc Try.prog w base spare held 22 v d p) :
    ∃ o n c x, v = poolV o n c ∧ n ≤ maxLen ∧ PoolAt w o n x :=
  open_pool0 Try.underlying22 Try.underlying53 Try.underlying3 (by kernel_rfl) (by kernel_rfl) hv h
end
end Go.Proofs.Ytbfhfadfjgfmaaa
