/- A region that draws its order and makes one fresh pool. -/
import Derived.Test.YtbfhfadfjgfmaaaInv
import Derived.Test.YtbfhfadfjgfmaaaPools
set_option linter.unusedVariables false
set_option linter.unusedSimpArgs false
set_option linter.unusedSectionVars false
namespace Go.Proofs.Ytbfhfadfjgfmaaa
open Go.RowKit
/-- The worlds of a region whose operation i makes a copy of a pool, at g. -/
def WP (W0 : World) (i n : Nat) (x : Nat → Nat → Int) (s : Nat → Bool) (g : Option Addr) (w : World) : Prop := Grew W0 w ∧ (s i = true → PoolAt w g n x)
namespace WP
variable {W0 w w' : World} {i j n : Nat} {x : Nat → Nat → Int} {s : Nat → Bool} {g : Option Addr}
theorem init : WP W0 i n x (fun _ => false) none W0.drew := ⟨⟨rfl, rfl, rfl, Nat.le_refl _, fun _ _ => rfl⟩, by intro h; cases h⟩
theorem keep (h : WP W0 i n x s g w) (hj : j ≠ i) : WP W0 i n x (upd s j true) g w := by
  unfold WP upd at *
  rw [if_neg (fun e => hj e.symm)]
  exact h
theorem call (h : WP W0 i n x s g w) (hb : Below w.heap.size w w') (hj : j ≠ i) : WP W0 i n x (upd s j true) g w' :=
  keep ⟨h.1.below.trans (hb.mono h.1.below.size), fun hs => (h.2 hs).below hb⟩ hj
theorem made (h : WP W0 i n x s g w) (hb : Below w.heap.size w w') {g' : Option Addr} (hp : PoolAt w' g' n x) : WP W0 i n x (upd s i true) g' w' :=
  ⟨h.1.below.trans (hb.mono h.1.below.size), fun _ => hp⟩
end WP
end Go.Proofs.Ytbfhfadfjgfmaaa
