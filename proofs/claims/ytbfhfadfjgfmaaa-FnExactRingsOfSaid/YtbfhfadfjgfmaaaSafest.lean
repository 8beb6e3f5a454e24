/- Contracts of functions of this program, used by the laws of this seat. No condition beyond what each theorem states. -/
import Derived.Test.YtbfhfadfjgfmaaaRow
import Derived.Test.YtbfhfadfjgfmaaaBeats
import Derived.OwnWalk
import Derived.Laws.PanicsMore
set_option linter.unusedVariables false
set_option linter.unusedSimpArgs false
set_option linter.unusedSectionVars false
namespace Go.Proofs.Ytbfhfadfjgfmaaa
open Go.RowKit
/-- The dice of a pool in one world, at one address. -/
def Dice6 (w : World) (a : Addr) (n : Nat) (x : Nat → Nat → Int) : Prop := ∀ m, m < n → (a.add (m * 6)).block < w.heap.size ∧ ∀ j, j < 6 → w.cell? ((a.add (m * 6)).add j) = some (I (x m) j)
theorem dice6 {w : World} {o : Option Addr} {n i : Nat} {x : Nat → Nat → Int} (h : PoolAt w o n x) (hi : i < n) : ∃ a, o = some a ∧ Dice6 w a n x := by
  obtain ⟨a, ho, _⟩ := h i hi
  refine ⟨a, ho, fun m hm => ?_⟩
  obtain ⟨a2, ho2, h1, h2⟩ := h m hm
  obtain rfl : a = a2 := by rw [ho] at ho2; exact Option.some.inj ho2
  exact ⟨by rw [add_block]; exact h1, h2⟩
theorem grown_load_pool {oo : Oper} {ac : Act} {w0 : World} {K : Act → Prop} {a : Addr} {n m : Nat} {x : Nat → Nat → Int} (p : Operand) (ho : oo.op = .load 53 p) (hP : Dice6 w0 a n x) (hx : ac.eval p = .pointer (some (a.add (m * 6)))) (hm : m < n)
    (hk : K (ac.put oo.dst (dieV (x m)))) : oo.quiet Try.prog ac (Grew w0) K :=
  grown_load_cells 53 p ho hx (hP m hm).1 (hP m hm).2 Try.isAgg53 sz6 hk
theorem idx3 (f : Nat → Int) (w : World) : (Instr.index 86 (.agg (row 3 (I f))) (.int .i64 0)).run Try.prog w = .ok (.int .i64 (f 0)) w := by
  have h1 : ∀ w, (sizeOf 3).run Try.prog w = .ok 1 w := fun _ => by kernel_rfl
  have h2 : ∀ w, (isAgg 3).run Try.prog w = .ok false w := fun _ => by kernel_rfl
  have h4 : (row 3 (I f))[0]? = some (.int .i64 (f 0)) := row_get (by omega)
  simp [Instr.index, run_underlying Try.underlying86, asIntOf, h1, h2, part, h4, go_sem]
theorem grown_index {P : Program} {oo : Oper} {ac : Act} {w0 : World} {K : Act → Prop} {ty : TypeId} {V r : Value} (p : Operand) (ho : oo.op = .index ty p (.const (.int .i64 0))) (hx : ac.eval p = V) (hr : ∀ w, (Instr.index ty V (.int .i64 0)).run P w = .ok r w)
    (hk : K (ac.put oo.dst r)) : oo.quiet P ac (Grew w0) K := by
  refine ⟨r, fun w hw => ?_, hk⟩
  have hc : ac.eval (.const (.int .i64 0)) = .int .i64 0 := rfl
  unfold Oper.quietAt execOp
  simp only [ho, hx, hc, Sem.run_bind, Sem.run_pure, hr, Result.andThen_ok]
  exact ⟨rfl, rfl⟩
theorem grown_index3 {oo : Oper} {ac : Act} {w0 : World} {K : Act → Prop} {f : Nat → Int} (p : Operand) (ho : oo.op = .index 86 p (.const (.int .i64 0))) (hx : ac.eval p = .agg (row 3 (I f)))
    (hk : K (ac.put oo.dst (.int .i64 (f 0)))) : oo.quiet Try.prog ac (Grew w0) K := grown_index p ho hx (idx3 f) hk
/-- In how many ways die i has a greater face than die k. -/
def wins (x : Nat → Nat → Int) (i k : Nat) : Int := cmpAll (x i) (x k) 6 0
theorem wins_bd (x : Nat → Nat → Int) (i k : Nat) : 0 ≤ wins x i k ∧ wins x i k ≤ 36 := by
  have := cmpAll_bd (x i) (x k) 6 0
  unfold wins
  omega
def leastF (x : Nat → Nat → Int) (i : Nat) : Nat → Int
  | 0 => 36
  | k + 1 => if k = i then leastF x i k else if leastF x i k < wins x i k then leastF x i k else wins x i k
theorem leastF_bd (x : Nat → Nat → Int) (i k : Nat) : 0 ≤ leastF x i k ∧ leastF x i k ≤ 36 := by
  induction k with
  | zero => simp [leastF]
  | succ k ih =>
    have := wins_bd x i k
    simp only [leastF]
    split
    · exact ih
    · split <;> omega
def safeF (x : Nat → Nat → Int) (n : Nat) : Nat → Int × Int
  | 0 => (0, -1)
  | i + 1 => if (safeF x n i).2 < leastF x i n then ((i : Int), leastF x i n) else safeF x n i
noncomputable def safeV (n : Nat) (x : Nat → Nat → Int) : Int × Int := if rowB n x then safeF x n n else (0, 0)
theorem least_any (a b : Int) (w : World) : Calls Try.prog 82 #[.int .i64 a, .int .i64 b] w fun e w' => e = .returned (.int .i64 (if a < b then a else b)) ∧ w = w' := by
  by_cases h : a < b
  · rw [if_pos h]
    go_enter Try.func82, Try.ntmps82
    go_wp2
    go_ret
    exact ⟨rfl, rfl⟩
  · rw [if_neg h]
    have d1 : decide (a < b) = false := by simp; omega
    go_enter Try.func82, Try.ntmps82
    go_wp2
    go_ret
    exact ⟨rfl, rfl⟩
end Go.Proofs.Ytbfhfadfjgfmaaa
