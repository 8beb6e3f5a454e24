/- Contracts of functions of this program, used by the laws of this seat. No condition beyond what each theorem states. -/
import Derived.Test.YtlgpejiepogopaaTable2
import Derived.Test.YtlgpejiepogopaaSpread
set_option linter.unusedVariables false
set_option linter.unusedSimpArgs false
set_option linter.unusedSectionVars false
namespace Go.Proofs.Ytlgpejiepogopaa
open Go.RowKit
theorem idx121v (f : Nat → Int) (k : Nat) (hk : k < 121) (w : World) : (Instr.index 41 (.agg (row 121 (I f))) (.int .i64 (k : Int))).run Try.prog w = .ok (.int .i64 (f k)) w := by
  have h1 : ∀ w, (sizeOf 3).run Try.prog w = .ok 1 w := fun _ => by kernel_rfl
  have h2 : ∀ w, (isAgg 3).run Try.prog w = .ok false w := fun _ => by kernel_rfl
  have h4 : (row 121 (I f))[k]? = some (.int .i64 (f k)) := row_get hk
  have h5 : (0 : Int) ≤ (k : Int) ∧ (k : Int) < 121 := by omega
  simp [Instr.index, run_underlying Try.underlying41, asIntOf, h1, h2, part, h4, h5, go_sem]
  intro h
  omega
theorem wpList_index121 {ops : Array Oper} {rest : List Oper} {o : Oper} {a : Act} {w : World} {Q : Exit → Act → World → Prop} (hw : Region.wanted o (yielded ops a.tmps) = true) {p q : Operand} (ho : o.op = .index 41 p q) {f : Nat → Int} {k : Nat}
    (hx : a.eval p = .agg (row 121 (I f))) (hy : a.eval q = .int .i64 (k : Int)) (hk : k < 121) (h : wpList Try.prog ops Q rest (a.put o.dst (.int .i64 (f k))) w) : wpList Try.prog ops Q (o :: rest) a w := wpList_indexv hw ho hx hy (idx121v f k hk) h

end Go.Proofs.Ytlgpejiepogopaa
