/- ChanceOfSum and ChanceAtLeast, both sides. -/
import Derived.Test.YtbfhfadfjgfmaaaTable3
import Derived.Test.YtbfhfadfjgfmaaaTable5
set_option linter.unusedVariables false
set_option linter.unusedSimpArgs false
set_option linter.unusedSectionVars false
namespace Go.Proofs.Ytbfhfadfjgfmaaa
open Go.RowKit
def inB (z : Int) : Bool := decide ((0 : Int) ≤ z) && decide (z ≤ 120)
theorem inB_nat {z : Int} (h : inB z = true) : ∃ k : Nat, z = (k : Int) ∧ k ≤ 120 := by
  unfold inB at h
  simp only [Bool.and_eq_true, decide_eq_true_eq] at h
  exact ⟨z.toNat, by omega, by omega⟩
theorem grown_indexv {P : Program} {o : Oper} {a : Act} {w0 : World} {K : Act → Prop} {ty : TypeId} {p q : Operand} (ho : o.op = .index ty p q) {V U r : Value} (hx : a.eval p = V) (hy : a.eval q = U)
    (hr : ∀ w, (Instr.index ty V U).run P w = .ok r w) (hk : K (a.put o.dst r)) : o.quiet P a (Grew w0) K := by
  refine ⟨_, fun w hw => ?_, hk⟩
  unfold Oper.quietAt execOp
  simp only [ho, hx, hy, Sem.run_bind, Sem.run_pure, Result.andThen_ok, hr]
  exact ⟨rfl, rfl⟩
noncomputable def chanceV (n : Nat) (x : Nat → Nat → Int) (z : Int) : Nat → Int := if poolB n x && inB z then fracV (tabF x n z.toNat).toNat ((sixN n : Int)).toNat else fun _ => 0
noncomputable def leastV (n : Nat) (x : Nat → Nat → Int) (z : Int) : Nat → Int := if poolB n x && inB z then fracV (sumF (tabF x n) 121 - sumF (tabF x n) z.toNat).toNat ((sixN n : Int)).toNat else fun _ => 0
/-- The bounds of a share of the table, as integers. -/
theorem share_bd {n : Nat} {x : Nat → Nat → Int} (g : poolB n x = true) : (∀ k, k < 121 → 0 ≤ tabF x n k ∧ tabF x n k ≤ 1296) ∧ (∀ k, k ≤ 121 → 0 ≤ sumF (tabF x n) k ∧ sumF (tabF x n) k ≤ 1296) ∧ 0 < (sixN n : Int) ∧ (sixN n : Int) ≤ 1296 := by
  obtain ⟨n1, n4⟩ := pool_le g
  refine ⟨fun k hk => tabF_one (pool_small g) n4 k hk, fun k hk => tabF_part (pool_small g) n4 k hk, ?_⟩
  have h1 := (sixN_le n (by omega)).1
  have h2 := sixN_small n4
  omega
end Go.Proofs.Ytbfhfadfjgfmaaa
