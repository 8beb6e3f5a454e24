/- Contracts of functions of this program, used by the laws of this seat. No condition beyond what each theorem states. -/
import Derived.Test.YtbfhfadfjgfmaaaSafest
set_option linter.unusedVariables false
set_option linter.unusedSimpArgs false
set_option linter.unusedSectionVars false
namespace Go.Proofs.Ytbfhfadfjgfmaaa
open Go.RowKit
theorem wpList_index {P : Program} {ops : Array Oper} {rest : List Oper} {o : Oper} {a : Act} {w : World} {Q : Exit → Act → World → Prop} (hw : Region.wanted o (yielded ops a.tmps) = true) {ty : TypeId} {p : Operand} (ho : o.op = .index ty p (.const (.int .i64 0))) {V r : Value}
    (hx : a.eval p = V) (hr : ∀ w, (Instr.index ty V (.int .i64 0)).run P w = .ok r w) (h : wpList P ops Q rest (a.put o.dst r) w) : wpList P ops Q (o :: rest) a w := by
  have hc : a.eval (.const (.int .i64 0)) = .int .i64 0 := rfl
  unfold wpList
  rw [if_pos hw]
  left
  unfold Oper.wp execOp
  simp only [ho, hx, hc, Sem.run_bind, Sem.run_pure, hr, Result.andThen_ok]
  exact h
theorem wpList_index3 {ops : Array Oper} {rest : List Oper} {o : Oper} {a : Act} {w : World} {Q : Exit → Act → World → Prop} (hw : Region.wanted o (yielded ops a.tmps) = true) {p : Operand} (ho : o.op = .index 86 p (.const (.int .i64 0))) {f : Nat → Int}
    (hx : a.eval p = .agg (row 3 (I f))) (h : wpList Try.prog ops Q rest (a.put o.dst (.int .i64 (f 0))) w) : wpList Try.prog ops Q (o :: rest) a w := wpList_index hw ho hx (idx3 f) h
theorem min_two (a b : Int) : (if a < b then a else b) = if b < a then b else a := by
  by_cases h1 : b < a
  · rw [if_neg (by omega), if_pos h1]
  · rw [if_neg h1]
    by_cases h2 : a < b
    · rw [if_pos h2]
    · rw [if_neg h2]; omega
end Go.Proofs.Ytbfhfadfjgfmaaa
