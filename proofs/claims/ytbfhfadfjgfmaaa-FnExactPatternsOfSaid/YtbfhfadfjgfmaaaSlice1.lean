/- Slices of arrays written as literals. -/
import Derived.Test.YtbfhfadfjgfmaaaArrs
import Derived.Test.YtbfhfadfjgfmaaaPairs
set_option linter.unusedVariables false
set_option linter.unusedSimpArgs false
set_option linter.unusedSectionVars false
namespace Go.Proofs.Ytbfhfadfjgfmaaa
open Go.RowKit
theorem wpList_buildSlice {P : Program} {ops : Array Oper} {rest : List Oper} {o : Oper} {a : Act} {w : World} {Q : Exit → Act → World → Prop} (hw : Region.wanted o (yielded ops a.tmps) = true) {ty : TypeId} {n : Nat} {parts : Array (Nat × Operand)} (ho : o.op = .buildSlice ty n parts) {vs : Array (Nat × Value)} {r : Value} {w' : World}
    (hv : parts.map (fun (i, x) => (i, a.eval x)) = vs) (hr : (Instr.buildSlice ty n vs).run P w = .ok r w') (h : wpList P ops Q rest (a.put o.dst r) w') : wpList P ops Q (o :: rest) a w := by
  unfold wpList
  rw [if_pos hw]
  left
  unfold Oper.wp execOp
  simp only [ho, hv, Sem.run_bind, hr, Result.andThen_ok, Sem.run_pure]
  exact h
theorem built1_4 (g : Nat → Int) (w : World) : (Instr.buildSlice 38 1 #[(0, .agg (row 4 (I g)))]).run Try.prog w = .ok (.slice (some ⟨w.heap.size, 0, none⟩) 1 1) (w.alloc (.cells (row 4 (I g)) 29)) := by kernel_rfl
theorem wpList_buildSlice1_4 {ops : Array Oper} {rest : List Oper} {o : Oper} {a : Act} {w : World} {Q : Exit → Act → World → Prop} (hw : Region.wanted o (yielded ops a.tmps) = true) {x : Operand} (ho : o.op = .buildSlice 38 1 #[(0, x)]) {g : Nat → Int}
    (hx : a.eval x = .agg (row 4 (I g))) (h : wpList Try.prog ops Q rest (a.put o.dst (.slice (some ⟨w.heap.size, 0, none⟩) 1 1)) (w.alloc (.cells (row 4 (I g)) 29))) : wpList Try.prog ops Q (o :: rest) a w :=
  wpList_buildSlice hw ho (by simp [hx]) (built1_4 g w) h
theorem built1_6 (g : Nat → Int) (w : World) : (Instr.buildSlice 22 1 #[(0, .agg (row 6 (I g)))]).run Try.prog w = .ok (.slice (some ⟨w.heap.size, 0, none⟩) 1 1) (w.alloc (.cells (row 6 (I g)) 53)) := by kernel_rfl
theorem wpList_buildSlice1_6 {ops : Array Oper} {rest : List Oper} {o : Oper} {a : Act} {w : World} {Q : Exit → Act → World → Prop} (hw : Region.wanted o (yielded ops a.tmps) = true) {x : Operand} (ho : o.op = .buildSlice 22 1 #[(0, x)]) {g : Nat → Int}
    (hx : a.eval x = .agg (row 6 (I g))) (h : wpList Try.prog ops Q rest (a.put o.dst (.slice (some ⟨w.heap.size, 0, none⟩) 1 1)) (w.alloc (.cells (row 6 (I g)) 53))) : wpList Try.prog ops Q (o :: rest) a w :=
  wpList_buildSlice hw ho (by simp [hx]) (built1_6 g w) h
theorem built2_6 (g q : Nat → Int) (w : World) : (Instr.buildSlice 22 2 #[(0, dieV g), (1, dieV q)]).run Try.prog w = .ok (.slice (some ⟨w.heap.size, 0, none⟩) 2 2) (w.alloc (.cells (row 12 (I (pairF g q))) 53)) := by kernel_rfl
theorem wpList_buildSlice2_6 {ops : Array Oper} {rest : List Oper} {o : Oper} {a : Act} {w : World} {Q : Exit → Act → World → Prop} (hw : Region.wanted o (yielded ops a.tmps) = true) {x y : Operand} (ho : o.op = .buildSlice 22 2 #[(0, x), (1, y)]) {g q : Nat → Int}
    (hx : a.eval x = dieV g) (hy : a.eval y = dieV q) (h : wpList Try.prog ops Q rest (a.put o.dst (.slice (some ⟨w.heap.size, 0, none⟩) 2 2)) (w.alloc (.cells (row 12 (I (pairF g q))) 53))) : wpList Try.prog ops Q (o :: rest) a w :=
  wpList_buildSlice hw ho (by simp [hx, hy]) (built2_6 g q w) h
theorem wpList_build2i {ops : Array Oper} {rest : List Oper} {o : Oper} {a : Act} {w : World} {Q : Exit → Act → World → Prop} (hw : Region.wanted o (yielded ops a.tmps) = true) {x y : Operand} (ho : o.op = .build 43 #[(0, x), (1, y)]) {p q : Int}
    (hx : a.eval x = .int .i64 p) (hy : a.eval y = .int .i64 q) (h : wpList Try.prog ops Q rest (a.put o.dst (.agg (row 2 (I fun i => if i = 0 then p else q)))) w) : wpList Try.prog ops Q (o :: rest) a w :=
  wpList_build_blk hw 43 #[(0, x), (1, y)] ho (by simpa [hx, hy] using made2 p q) h
end Go.Proofs.Ytbfhfadfjgfmaaa
