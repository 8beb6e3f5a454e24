/- Contracts of functions of this program, used by the laws of this seat. No condition beyond what each theorem states. -/
import Derived.Test.YthjfnfhadgmglaaDoorDice
set_option linter.unusedVariables false
set_option linter.unusedSimpArgs false
set_option linter.unusedSectionVars false
namespace Go.Proofs.YthjfnfhadgmglaaDoor
open Go.RowKit

theorem zero6 : ∀ w, (zeroValue 57).run Tryd.prog w = .ok (.agg (row 6 (I fun _ => 0))) w := fun _ => by kernel_rfl
theorem built6 : Tryd.prog.built 57 [] = some (row 6 (I fun _ => 0)) := by kernel_rfl
set_option maxRecDepth 100000 in
theorem eqA6_any (a : Nat → Int) (w : World) :
    Calls Tryd.prog 51 #[.agg (row 6 (I a)), .agg (row 6 (I a))] w fun e w' => e = .returned (.bool true) ∧ Below w.heap.size w w' := by
  go_enter Tryd.func51, Tryd.ntmps51
  go_wp2
  go_loopw [5] (fun i wr => ∃ k : Nat, k ≤ 6 ∧ i = .int .i64 k ∧ Blk wr w.heap.size 6 57 (I a) ∧ Blk wr (w.heap.size + 1) 6 57 (I a) ∧ Below w.heap.size w wr) (fun i _ => 6 - (intOf i).toNat)
  case atStart => exact ⟨0, by omega, rfl, (Blk.new _ _ _ _).alloc _, Blk.newS (by simp), ((Below.refl _ _).alloc (by omega) _).alloc (by simp) _⟩
  case round =>
    obtain ⟨k, hk, rfl, h0, h1, hb⟩ := hrel
    by_cases hlt : k < 6
    · have c0 : wr.cell? ⟨w.heap.size, k, none⟩ = some (.int .i64 (a k)) := h0.cell hlt
      have c1 : wr.cell? ⟨w.heap.size + 1, k, none⟩ = some (.int .i64 (a k)) := h1.cell hlt
      have H0 := Lib.hid h0; have H1 := Lib.hid h1; have HB := Lib.hid hb
      clear h0 h1 hb
      go_wp2
      go_quiet (fail)
      go_wp2
      go_roundw
      case rel => exact ⟨k + 1, by omega, by go_num, H0.out.drewN _, H1.out.drewN _, below_drewN HB.out _⟩
      case measure => simp [intOf]; omega
    · go_wp2
      go_ret
      exact ⟨rfl, hb⟩

end Go.Proofs.YthjfnfhadgmglaaDoor
