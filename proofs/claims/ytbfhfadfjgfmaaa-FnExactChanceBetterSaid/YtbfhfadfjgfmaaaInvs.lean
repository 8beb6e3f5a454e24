/- Texts of mine, joined by merge.py. -/
import Derived.Test.YtbfhfadfjgfmaaaInv
import Derived.Test.YtbfhfadfjgfmaaaPools
import Derived.Test.YtbfhfadfjgfmaaaEq
/- A region that draws its order and makes one fresh pool. -/
set_option linter.unusedVariables false
set_option linter.unusedSimpArgs false
set_option linter.unusedSectionVars false
namespace Go.Proofs.Ytbfhfadfjgfmaaa
open Go.RowKit
/-- The worlds of a region whose operation i makes a copy of a pool, at g. -/
def WP (W0 : World) (i n : Nat) (x : Nat → Nat → Int) (s : Nat → Bool) (g : Option Addr) (w : World) : Prop := Grew W0 w ∧ (s i = true → PoolAt w g n x)
namespace WP
variable {W0 w w' : World} {i j n : Nat} {x : Nat → Nat → Int} {s : Nat → Bool} {g : Option Addr}
theorem init : WP W0 i n x (fun _ => false) none W0.drew := ⟨⟨rfl, rfl, rfl, Nat.le_refl _, fun _ _ => rfl⟩, by intro h; cases h⟩
theorem keep (h : WP W0 i n x s g w) (hj : j ≠ i) : WP W0 i n x (upd s j true) g w := by
  unfold WP upd at *
  rw [if_neg (fun e => hj e.symm)]
  exact h
theorem call (h : WP W0 i n x s g w) (hb : Below w.heap.size w w') (hj : j ≠ i) : WP W0 i n x (upd s j true) g w' :=
  keep ⟨h.1.below.trans (hb.mono h.1.below.size), fun hs => (h.2 hs).below hb⟩ hj
theorem made (h : WP W0 i n x s g w) (hb : Below w.heap.size w w') {g' : Option Addr} (hp : PoolAt w' g' n x) : WP W0 i n x (upd s i true) g' w' :=
  ⟨h.1.below.trans (hb.mono h.1.below.size), fun _ => hp⟩
end WP
end Go.Proofs.Ytbfhfadfjgfmaaa

/- A region that draws its order, makes one fresh pool, calls with it, and lays what comes back in a fresh array. -/
set_option linter.unusedVariables false
set_option linter.unusedSimpArgs false
set_option linter.unusedSectionVars false
namespace Go.Proofs.Ytbfhfadfjgfmaaa
open Go.RowKit
/-- Operation 1 makes the pool, 4 is the call, 8 makes the block, 9 writes it. -/
def WPA (W0 : World) (n : Nat) (x : Nat → Nat → Int) (k : Nat) (T : TypeId) (F : Nat → Value) (s : Nat → Bool) (g : Option Addr × Nat) (w : World) : Prop :=
  Grew W0 w ∧ (s 9 = true → s 4 = true ∧ s 8 = true) ∧ (s 1 = true → s 9 = false → PoolAt w g.1 n x) ∧ (s 8 = true → W0.heap.size ≤ g.2 ∧ ∃ f, Blk w g.2 k T f) ∧ (s 9 = true → Blk w g.2 k T F)
namespace WPA
variable {W0 w w' : World} {n k j : Nat} {x : Nat → Nat → Int} {T : TypeId} {F : Nat → Value} {s : Nat → Bool} {g : Option Addr × Nat}
theorem init : WPA W0 n x k T F (fun _ => false) (none, 0) W0.drew := ⟨⟨rfl, rfl, rfl, Nat.le_refl _, fun _ _ => rfl⟩, by simp, by simp, by simp, by simp⟩
theorem keep (h : WPA W0 n x k T F s g w) (h1 : j ≠ 1) (h8 : j ≠ 8) (h9 : j ≠ 9) : WPA W0 n x k T F (upd s j true) g w := by
  obtain ⟨a0, a1, a2, a3, a4⟩ := h
  have e1 : upd s j true 1 = s 1 := by simp only [upd]; rw [if_neg (fun e => h1 e.symm)]
  have e8 : upd s j true 8 = s 8 := by simp only [upd]; rw [if_neg (fun e => h8 e.symm)]
  have e9 : upd s j true 9 = s 9 := by simp only [upd]; rw [if_neg (fun e => h9 e.symm)]
  refine ⟨a0, fun e => ?_, by rw [e1, e9]; exact a2, by rw [e8]; exact a3, by rw [e9]; exact a4⟩
  rw [e9] at e
  obtain ⟨b1, b2⟩ := a1 e
  refine ⟨?_, by rw [e8]; exact b2⟩
  simp only [upd]; split
  · rfl
  · exact b1
theorem grow (h : WPA W0 n x k T F s g w) (hb : Below w.heap.size w w') : WPA W0 n x k T F s g w' := by
  obtain ⟨a0, a1, a2, a3, a4⟩ := h
  exact ⟨a0.below.trans (hb.mono a0.below.size), a1, fun e1 e2 => (a2 e1 e2).below hb, fun e => ⟨(a3 e).1, by obtain ⟨f, hf⟩ := (a3 e).2; exact ⟨f, hf.below hb hf.lt⟩⟩, fun e => (a4 e).below hb (a4 e).lt⟩
theorem call (h : WPA W0 n x k T F s g w) (hb : Below w.heap.size w w') (h1 : j ≠ 1) (h8 : j ≠ 8) (h9 : j ≠ 9) : WPA W0 n x k T F (upd s j true) g w' := (h.grow hb).keep h1 h8 h9
theorem made (h : WPA W0 n x k T F s g w) (hb : Below w.heap.size w w') {o' : Option Addr} (hp : PoolAt w' o' n x) : WPA W0 n x k T F (upd s 1 true) (o', g.2) w' := by
  obtain ⟨a0, a1, a2, a3, a4⟩ := h.grow hb
  exact ⟨a0, by simpa [upd] using a1, fun _ _ => hp, by simpa [upd] using a3, by simpa [upd] using a4⟩
theorem pool (h : WPA W0 n x k T F s g w) (h1 : s 1 = true) (h4 : s 4 = false) : PoolAt w g.1 n x :=
  h.2.2.1 h1 (by cases e : s 9; rfl; rw [(h.2.1 e).1] at h4; cases h4)
theorem laid (h : WPA W0 n x k T F s g w) (h8 : s 8 = false) (f : Nat → Value) : WPA W0 n x k T F (upd s 8 true) (g.1, w.heap.size) (w.alloc (.cells (row k f) T)) := by
  obtain ⟨a0, a1, a2, a3, a4⟩ := h
  have e9 : s 9 = false := by cases e : s 9; rfl; rw [(a1 e).2] at h8; cases h8
  refine ⟨a0.below.alloc a0.below.size _, by simp [upd, e9], fun e1 e2 => (a2 (by simpa [upd] using e1) e9).alloc _, fun _ => ⟨a0.below.size, f, Blk.new _ _ _ _⟩, by simp [upd, e9]⟩
theorem wrote (h : WPA W0 n x k T F s g w) (h4 : s 4 = true) (h8 : s 8 = true) : WPA W0 n x k T F (upd s 9 true) g (w.setRow g.2 (row k F)) := by
  obtain ⟨a0, a1, a2, a3, a4⟩ := h
  obtain ⟨b1, f, hf⟩ := a3 h8
  exact ⟨below_setRow a0.below b1 _, fun _ => ⟨by simp [upd, h4], by simp [upd, h8]⟩, by simp [upd], fun _ => ⟨b1, F, hf.setRow F⟩, fun _ => hf.setRow F⟩
end WPA
end Go.Proofs.Ytbfhfadfjgfmaaa
