/- Contracts of functions of this program, used by the laws of this seat. No condition beyond what each theorem states. -/
import Derived.Test.YtbfhfadfjgfmaaaCut
import Derived.Test.YtbfhfadfjgfmaaaSafest2
set_option linter.unusedVariables false
set_option linter.unusedSimpArgs false
set_option linter.unusedSectionVars false
namespace Go.Proofs.Ytbfhfadfjgfmaaa
open Go.RowKit
theorem l2Cut_int (z y : Int) (h0 : 0 ≤ z) (h1 : z ≤ 1000000000) (h2 : 0 < y) (h3 : y ≤ 1000000000) (w : World) : Calls Try.prog 61 #[.int .i64 z, .int .i64 y] w fun e w' => e = .returned (.agg (row 2 (I (fracV z.toNat y.toNat)))) ∧ Below w.heap.size w w' := by
  obtain ⟨p, rfl⟩ := Int.eq_ofNat_of_zero_le h0
  obtain ⟨q, rfl⟩ := Int.eq_ofNat_of_zero_le (Int.le_of_lt h2)
  exact l2Cut_any p q (by omega) (by omega) (by omega) w
theorem fraction_int (z y : Int) (h0 : 0 ≤ z) (h1 : z ≤ 1000000000) (h2 : 0 < y) (h3 : y ≤ 1000000000) (w : World) : Calls Try.prog 62 #[.int .i64 z, .int .i64 y] w fun e w' => e = .returned (.agg (row 2 (I (fracV z.toNat y.toNat)))) ∧ Below w.heap.size w w' := by
  obtain ⟨p, rfl⟩ := Int.eq_ofNat_of_zero_le h0
  obtain ⟨q, rfl⟩ := Int.eq_ofNat_of_zero_le (Int.le_of_lt h2)
  exact fraction_any p q (by omega) (by omega) (by omega) w
def dieSum (x : Nat → Nat → Int) (i : Nat) : Int := sumF (x i) 6
def allF (x : Nat → Nat → Int) (k : Nat) : Int := sumF (dieSum x) k
theorem dieSum_bd {n : Nat} {x : Nat → Nat → Int} (h : ∀ i, i < n → Small (x i)) (i : Nat) (hi : i < n) : 0 ≤ dieSum x i ∧ dieSum x i ≤ 180 := by
  have := sumF_bd (f := x i) (m := 30) 6 (fun j hj => h i hi j hj)
  unfold dieSum
  omega
theorem allF_bd {n : Nat} {x : Nat → Nat → Int} (h : ∀ i, i < n → Small (x i)) (k : Nat) (hk : k ≤ n) : 0 ≤ allF x k ∧ allF x k ≤ 180 * k := by
  have := sumF_bd (f := dieSum x) (m := 180) k (fun j hj => dieSum_bd h j (by omega))
  exact this
noncomputable def meanV (n : Nat) (x : Nat → Nat → Int) : Nat → Int := if poolB n x then fracV (allF x n).toNat (6 : Int).toNat else fun _ => 0

end Go.Proofs.Ytbfhfadfjgfmaaa
