/- The program's kept and the reference's l4Kept. -/
import Derived.Test.YtbfhfadfjgfmaaaCnt
import Derived.Test.YtbfhfadfjgfmaaaSort4
import Derived.Test.YtbfhfadfjgfmaaaPlaces2
set_option linter.unusedVariables false
set_option linter.unusedSimpArgs false
set_option linter.unusedSectionVars false
namespace Go.Proofs.Ytbfhfadfjgfmaaa
open Go.RowKit
theorem grown_trans {w w1 w2 : World} {r r2 : Option Nat} (h1 : w.grownBy w1 r) (h2 : w1.grownBy w2 r2) (hr : ∀ k, r2 = some k → some k = r ∨ w.heap.size ≤ k) : w.grownBy w2 r :=
  ⟨h2.os.trans h1.os, h2.tape.trans h1.tape, h2.output.trans h1.output, Nat.le_trans h1.size h2.size, fun k hk hne => by
    rw [h2.block k (Nat.lt_of_lt_of_le hk h1.size) (fun e => by
      rcases hr k e.symm with q | q
      · exact hne q
      · omega)]
    exact h1.block k hk hne⟩
theorem pool_grown {w w' : World} {o : Option Addr} {n B : Nat} {x : Nat → Nat → Int} (h : PoolAt w o n x) (hP : ∀ a, o = some a → a.block < B) (hg : w.grownBy w' (some B)) : PoolAt w' o n x :=
  h.grown hg (fun a ha e => by injection e with e; have := hP a ha; omega)
theorem pool_lt {w : World} {o : Option Addr} {n : Nat} {x : Nat → Nat → Int} (h : PoolAt w o n x) (hn : 1 ≤ n) : ∀ a, o = some a → a.block < w.heap.size := fun a ha => by
  obtain ⟨a2, h1, h2, _⟩ := h 0 (by omega)
  rw [ha] at h1
  injection h1 with h1
  subst h1
  exact h2
end Go.Proofs.Ytbfhfadfjgfmaaa
