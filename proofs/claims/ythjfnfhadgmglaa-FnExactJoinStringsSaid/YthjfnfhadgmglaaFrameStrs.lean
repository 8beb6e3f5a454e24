/- How a slice of texts opens, as an argument of a law. -/
import Derived.Test.YthjfnfhadgmglaaFrame
import Derived.Test.YthjfnfhadgmglaaStrs
import Derived.Deep.Strs
import Derived.ChangeOld
set_option linter.unusedVariables false
set_option linter.unusedSimpArgs false
set_option linter.unusedSectionVars false
namespace Go.Proofs.Ythjfnfhadgmglaa
open Go.ChangeShapes Go.WideShapes Go.ChangeAt Go.RowKit
theorem addS_addr (b o j : Nat) : (⟨b, o, none⟩ : Addr).add j = ⟨b, o + j, none⟩ := by unfold Addr.add; split <;> simp_all
theorem addS_block (a : Addr) (k : Nat) : (a.add k).block = a.block := by unfold Addr.add; split <;> rfl
/-- What the slice at o holds: n texts. -/
def StrsAt (w : World) (o : Option Addr) (n : Nat) (x : Nat → ByteArray) : Prop :=
  ∀ i, i < n → ∃ a, o = some a ∧ a.block < w.heap.size ∧ w.cell? (a.add i) = some (.string (x i))
namespace StrsAt
variable {w w' : World} {o : Option Addr} {n B : Nat} {x : Nat → ByteArray}
theorem below (h : StrsAt w o n x) (hb : Below w.heap.size w w') : StrsAt w' o n x := fun i hi => by
  obtain ⟨a, h1, h2, h3⟩ := h i hi
  refine ⟨a, h1, by have := hb.size; omega, ?_⟩
  rw [Below.cell hb (by rw [addS_block]; exact h2)]
  exact h3
theorem ofBlk {b : Nat} {T : TypeId} {f : Nat → Value} (h : Blk w b n T f) (he : ∀ i, i < n → f i = .string (x i)) : StrsAt w (some ⟨b, 0, none⟩) n x := fun i hi => by
  refine ⟨_, rfl, h.lt, ?_⟩
  rw [addS_addr, Nat.zero_add, h.cell (by omega)]
  rw [he i hi]
end StrsAt
section
variable {H : Type} {enc : TypeId × Value → H}
set_option maxRecDepth 100000 in
theorem open_strings {w : World} {r : Reach} {b0 base : Nat} {spare : Nat → Bool} {held : Bool} {v : Value} {d : DataW H} {p : List MemPlace} (hv : Value.okWide Try.prog w r b0 27 v) (h : DataW.Trod enc Try.prog w base spare held 27 v d p) :
    ∃ o n c x, v = .slice o n c ∧ n ≤ maxLen ∧ (∀ i, (x i).size ≤ maxLen) ∧ n ≤ c ∧ StrsAt w o n x := by
  obtain ⟨a0, len0, cap0, rfl⟩ := okWide_slice Try.underlying27 hv
  obtain ⟨fuel, hf⟩ := h
  rcases Go.Deep.open_strs Try.underlying27 Try.underlying9 (by kernel_rfl) hf with ⟨h0, _⟩ | ⟨a, len, cap, m, Sx, h0, hb, hl, hm, hmm, _, hx⟩
  · simp [Value.cells] at h0
    obtain ⟨rfl, rfl, rfl⟩ := h0
    exact ⟨none, 0, 0, fun _ => ⟨#[]⟩, rfl, by omega, fun _ => by simp [ByteArray.size], Nat.le_refl _, fun i hi => by omega⟩
  · simp [Value.cells] at h0
    obtain ⟨rfl, rfl, rfl⟩ := h0
    have hlm : len0 ≤ m := by rw [hmm]; split <;> omega
    refine ⟨some a, len0, cap0, fun i => if i < len0 then Sx i else ⟨#[]⟩, rfl, by omega, fun i => ?_, hl, fun i hi => ⟨a, rfl, ?_, ?_⟩⟩
    · by_cases hi : i < len0
      · simp only [hi, if_true]; exact (hx i (by omega)).2
      · simp [hi, ByteArray.size]
    · have := World.block_lt_of_cell? w _ (hx i (by omega)).1
      rw [addS_block] at this
      exact this
    · simp only [hi, if_true]; exact (hx i (by omega)).1
end
end Go.Proofs.Ythjfnfhadgmglaa
