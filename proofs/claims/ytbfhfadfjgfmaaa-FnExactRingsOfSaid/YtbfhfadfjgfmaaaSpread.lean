/- Contracts of functions of this program, used by the laws of this seat. No condition beyond what each theorem states. -/
import Derived.Test.YtbfhfadfjgfmaaaMean
set_option linter.unusedVariables false
set_option linter.unusedSimpArgs false
set_option linter.unusedSectionVars false
namespace Go.Proofs.Ytbfhfadfjgfmaaa
open Go.RowKit
theorem sq_ge (a : Int) : 0 ≤ a * a := by
  rcases Int.le_total 0 a with h | h
  · exact Int.mul_nonneg h h
  · exact Int.mul_nonneg_of_nonpos_of_nonpos h h
theorem six_sq (a b c d e f : Int) : 0 ≤ 6 * (0 + a * a + b * b + c * c + d * d + e * e + f * f) - (0 + a + b + c + d + e + f) * (0 + a + b + c + d + e + f) := by
  have h : 6 * (0 + a * a + b * b + c * c + d * d + e * e + f * f) - (0 + a + b + c + d + e + f) * (0 + a + b + c + d + e + f) = (a - b) * (a - b) + (a - c) * (a - c) + (a - d) * (a - d) + (a - e) * (a - e) + (a - f) * (a - f) + (b - c) * (b - c) + (b - d) * (b - d) + (b - e) * (b - e) + (b - f) * (b - f) + (c - d) * (c - d) + (c - e) * (c - e) + (c - f) * (c - f) + (d - e) * (d - e) + (d - f) * (d - f) + (e - f) * (e - f) := by grind
  rw [h]
  have := sq_ge (a - b); have := sq_ge (a - c); have := sq_ge (a - d); have := sq_ge (a - e); have := sq_ge (a - f); have := sq_ge (b - c); have := sq_ge (b - d); have := sq_ge (b - e); have := sq_ge (b - f); have := sq_ge (c - d); have := sq_ge (c - e); have := sq_ge (c - f); have := sq_ge (d - e); have := sq_ge (d - f); have := sq_ge (e - f)
  omega
def sqF (x : Nat → Nat → Int) (i m : Nat) : Int := sumF (fun j => x i j * x i j) m
def spreadD (x : Nat → Nat → Int) (i : Nat) : Int := 6 * sqF x i 6 - dieSum x i * dieSum x i
def sprF (x : Nat → Nat → Int) (k : Nat) : Int := sumF (spreadD x) k
theorem mul_bd {a m : Int} (h : 0 ≤ a ∧ a ≤ m) : 0 ≤ a * a ∧ a * a ≤ m * m := ⟨sq_ge a, Int.mul_le_mul h.2 h.2 h.1 (by omega)⟩
theorem sqF_bd {n : Nat} {x : Nat → Nat → Int} (h : ∀ i, i < n → Small (x i)) (i : Nat) (hi : i < n) (m : Nat) (hm : m ≤ 6) : 0 ≤ sqF x i m ∧ sqF x i m ≤ 900 * m :=
  sumF_bd (f := fun j => x i j * x i j) (m := 900) m (fun j hj => mul_bd (m := 30) (h i hi j (by omega)))
theorem spreadD_bd {n : Nat} {x : Nat → Nat → Int} (h : ∀ i, i < n → Small (x i)) (i : Nat) (hi : i < n) : 0 ≤ spreadD x i ∧ spreadD x i ≤ 32400 := by
  have h1 := sqF_bd h i hi 6 (by omega)
  have h2 := mul_bd (dieSum_bd h i hi)
  have h3 := six_sq (x i 0) (x i 1) (x i 2) (x i 3) (x i 4) (x i 5)
  refine ⟨?_, by unfold spreadD; omega⟩
  unfold spreadD sqF dieSum
  simp only [sumF]
  exact h3
theorem sprF_bd {n : Nat} {x : Nat → Nat → Int} (h : ∀ i, i < n → Small (x i)) (k : Nat) (hk : k ≤ n) : 0 ≤ sprF x k ∧ sprF x k ≤ 32400 * k :=
  sumF_bd (f := spreadD x) (m := 32400) k (fun j hj => spreadD_bd h j (by omega))
noncomputable def spreadV (n : Nat) (x : Nat → Nat → Int) : Nat → Int := if poolB n x then fracV (sprF x n).toNat (36 : Int).toNat else fun _ => 0
theorem idx6v (f : Nat → Int) (k : Nat) (hk : k < 6) (w : World) : (Instr.index 53 (.agg (row 6 (I f))) (.int .i64 (k : Int))).run Try.prog w = .ok (.int .i64 (f k)) w := by
  have h1 : ∀ w, (sizeOf 3).run Try.prog w = .ok 1 w := fun _ => by kernel_rfl
  have h2 : ∀ w, (isAgg 3).run Try.prog w = .ok false w := fun _ => by kernel_rfl
  have h4 : (row 6 (I f))[k]? = some (.int .i64 (f k)) := row_get hk
  have h5 : (0 : Int) ≤ (k : Int) ∧ (k : Int) < 6 := by omega
  simp [Instr.index, run_underlying Try.underlying53, asIntOf, h1, h2, part, h4, h5, go_sem]
  intro h
  omega
theorem wpList_indexv {P : Program} {ops : Array Oper} {rest : List Oper} {o : Oper} {a : Act} {w : World} {Q : Exit → Act → World → Prop} (hw : Region.wanted o (yielded ops a.tmps) = true) {ty : TypeId} {p q : Operand} (ho : o.op = .index ty p q) {V U r : Value}
    (hx : a.eval p = V) (hy : a.eval q = U) (hr : ∀ w, (Instr.index ty V U).run P w = .ok r w) (h : wpList P ops Q rest (a.put o.dst r) w) : wpList P ops Q (o :: rest) a w := by
  unfold wpList
  rw [if_pos hw]
  left
  unfold Oper.wp execOp
  simp only [ho, hx, hy, Sem.run_bind, Sem.run_pure, hr, Result.andThen_ok]
  exact h
theorem wpList_index6 {ops : Array Oper} {rest : List Oper} {o : Oper} {a : Act} {w : World} {Q : Exit → Act → World → Prop} (hw : Region.wanted o (yielded ops a.tmps) = true) {p q : Operand} (ho : o.op = .index 53 p q) {f : Nat → Int} {k : Nat}
    (hx : a.eval p = .agg (row 6 (I f))) (hy : a.eval q = .int .i64 (k : Int)) (hk : k < 6) (h : wpList Try.prog ops Q rest (a.put o.dst (.int .i64 (f k))) w) : wpList Try.prog ops Q (o :: rest) a w := wpList_indexv hw ho hx hy (idx6v f k hk) h
end Go.Proofs.Ytbfhfadfjgfmaaa
