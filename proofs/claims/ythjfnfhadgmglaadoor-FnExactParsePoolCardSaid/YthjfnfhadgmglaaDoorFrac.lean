/- Contracts of functions of this program, used by the laws of this seat. No condition beyond what each theorem states. -/
import Derived.Test.YthjfnfhadgmglaaDoorEq
import Derived.Test.YthjfnfhadgmglaaDoorTail
import Derived.Test.YthjfnfhadgmglaaDoorPart
set_option linter.unusedVariables false
set_option linter.unusedSimpArgs false
set_option linter.unusedSectionVars false
namespace Go.Proofs.YthjfnfhadgmglaaDoor
open Go.RowKit
def fracV (p q : Nat) : Nat → Int := fun i => if i = 0 then ((p / Nat.gcd p q : Nat) : Int) else ((q / Nat.gcd p q : Nat) : Int)
theorem quiet_build {P : Program} {oo : Oper} {ac : Act} {w0 : World} {K : Act → Prop} {ty : TypeId} (parts : Array (Nat × Operand)) (ho : oo.op = .build ty parts) {n : Nat} {f : Nat → Value}
    (hb : P.built ty (parts.map fun (i, x) => (i, ac.eval x)).toList = some (row n f)) (hk : K (ac.put oo.dst (.agg (row n f)))) : oo.quiet P ac (Grew w0) K := by
  refine ⟨_, fun w hw => ?_, hk⟩
  unfold Oper.quietAt execOp
  simp only [ho, Sem.run_bind, run_build w ty _ _ hb, Result.andThen_ok, Sem.run_pure]
  exact ⟨rfl, rfl⟩
theorem gcd_step (p q : Nat) : Nat.gcd q (p % q) = Nat.gcd p q := by rw [Nat.gcd_comm, ← Nat.gcd_rec, Nat.gcd_comm]
theorem tmod_nat (p q : Nat) : Int.tmod (p : Int) (q : Int) = ((p % q : Nat) : Int) := by
  rw [Int.tmod_eq_emod_of_nonneg (by omega)]; rfl
theorem tdiv_nat (p q : Nat) : Int.tdiv (p : Int) (q : Int) = ((p / q : Nat) : Int) := by
  rw [Int.tdiv_eq_ediv_of_nonneg (by omega)]; rfl

theorem frac_wrap (p q : Nat) (hp : p ≤ 1000000000) (hq : q ≤ 1000000000) : (fun i : Nat => if i = 0 then wrap64 ((p : Int) / ((Nat.gcd p q : Nat) : Int)) else wrap64 ((q : Int) / ((Nat.gcd p q : Nat) : Int))) = fracV p q := by
  have h : ∀ m k : Nat, m ≤ 1000000000 → wrap64 ((m : Int) / (k : Int)) = ((m / k : Nat) : Int) := fun m k hm => by
    have h1 : m / k ≤ m := Nat.div_le_self m k
    have h2 : (m : Int) / (k : Int) = ((m / k : Nat) : Int) := rfl
    rw [h2]
    generalize m / k = z at *
    unfold wrap64
    omega
  funext i
  unfold fracV
  rw [h p _ hp, h q _ hq]
end Go.Proofs.YthjfnfhadgmglaaDoor
