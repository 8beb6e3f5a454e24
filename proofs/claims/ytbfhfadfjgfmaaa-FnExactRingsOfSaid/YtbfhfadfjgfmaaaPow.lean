/- Contracts of functions of this program, used by the laws of this seat. No condition beyond what each theorem states. -/
import Derived.Test.YtbfhfadfjgfmaaaDice
set_option linter.unusedVariables false
set_option linter.unusedSimpArgs false
set_option linter.unusedSectionVars false
namespace Go.Proofs.Ytbfhfadfjgfmaaa
open Go.RowKit
/-- 6 to a power. -/
def sixN : Nat → Nat
  | 0 => 1
  | k + 1 => sixN k * 6
theorem sixN_bd : ∀ k, k ≤ 8 → 1 ≤ sixN k ∧ sixN k ≤ 1679616
  | 0, _ => by decide
  | 1, _ => by decide
  | 2, _ => by decide
  | 3, _ => by decide
  | 4, _ => by decide
  | 5, _ => by decide
  | 6, _ => by decide
  | 7, _ => by decide
  | 8, _ => by decide
theorem power_any (n : Nat) (hn : n ≤ 8) (w : World) : Calls Try.prog 63 #[.int .i64 (n : Int)] w fun e w' => e = .returned (.int .i64 (sixN n : Int)) ∧ w = w' := by
  go_enter Try.func63, Try.ntmps63
  go_wp2
  go_loopw [3, 5] (fun p i wr => ∃ k : Nat, k ≤ n ∧ i = .int .i64 (k : Int) ∧ p = .int .i64 (sixN k : Int) ∧ w = wr) (fun p i _ => n - (intOf i).toNat)
  case atStart => exact ⟨0, by omega, rfl, rfl, rfl⟩
  case round =>
    obtain ⟨k, hk, rfl, rfl, rfl⟩ := hrel
    have hb := (sixN_bd k (by omega)).2
    have HP := Lib.hid (show (sixN k : Int) * 6 = (sixN (k + 1) : Int) by simp only [sixN]; rw [Int.natCast_mul]; rfl)
    have HE := Lib.hid (fun h : k = n => show (sixN k : Int) = (sixN n : Int) by rw [h])
    obtain ⟨z, hz⟩ : ∃ z : Nat, z = sixN k := ⟨_, rfl⟩
    rw [← hz] at hb HP HE
    rw [← hz]
    have HZ := Lib.hid hz
    clear hz
    by_cases hlt : k < n
    · have d1 : decide (k < n) = true := by simp; omega
      go_wp2
      go_roundw
      case rel => exact ⟨k + 1, by omega, by go_num, by rw [← HP.out], trivial⟩
      case measure => simp [intOf]; omega
    · have d1 : decide (k < n) = false := by simp; omega
      have HF := Lib.hid (HE.out (by omega))
      go_wp2
      go_ret
      exact ⟨by rw [← HF.out]; rfl, rfl⟩
theorem l2All_any (n : Nat) (hn : n ≤ 8) (w : World) : Calls Try.prog 53 #[.int .i64 (n : Int)] w fun e w' => e = .returned (.int .i64 (sixN n : Int)) ∧ w = w' := by
  go_enter Try.func53, Try.ntmps53
  go_wp2
  go_loopw [3, 4] (fun p i wr => ∃ k : Nat, k ≤ n ∧ i = .int .i64 (k : Int) ∧ p = .int .i64 (sixN k : Int) ∧ w = wr) (fun p i _ => n - (intOf i).toNat)
  case atStart => exact ⟨0, by omega, rfl, rfl, rfl⟩
  case round =>
    obtain ⟨k, hk, rfl, rfl, rfl⟩ := hrel
    have hb := (sixN_bd k (by omega)).2
    have HP := Lib.hid (show (sixN k : Int) * 6 = (sixN (k + 1) : Int) by simp only [sixN]; rw [Int.natCast_mul]; rfl)
    have HE := Lib.hid (fun h : k = n => show (sixN k : Int) = (sixN n : Int) by rw [h])
    obtain ⟨z, hz⟩ : ∃ z : Nat, z = sixN k := ⟨_, rfl⟩
    rw [← hz] at hb HP HE
    rw [← hz]
    have HZ := Lib.hid hz
    clear hz
    by_cases hlt : k < n
    · have d1 : decide (k < n) = true := by simp; omega
      go_wp2
      go_roundw
      case rel => exact ⟨k + 1, by omega, by go_num, by rw [← HP.out], trivial⟩
      case measure => simp [intOf]; omega
    · have d1 : decide (k < n) = false := by simp; omega
      have HF := Lib.hid (HE.out (by omega))
      go_wp2
      go_ret
      exact ⟨by rw [← HF.out]; rfl, rfl⟩
end Go.Proofs.Ytbfhfadfjgfmaaa
