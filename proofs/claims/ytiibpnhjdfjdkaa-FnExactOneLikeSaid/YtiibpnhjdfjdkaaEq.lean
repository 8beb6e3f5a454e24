/- Contracts of functions of this program, used by the laws of this seat. No condition beyond what each theorem states. -/
import Derived.Test.YtiibpnhjdfjdkaaDice
set_option linter.unusedVariables false
set_option linter.unusedSimpArgs false
set_option linter.unusedSectionVars false
namespace Go.Proofs.Ytiibpnhjdfjdkaa
open Go.RowKit

theorem sz2 : (Try.prog.info? 43).map (·.size) = some 2 := by kernel_rfl
theorem zero2 : ∀ w, (zeroValue 43).run Try.prog w = .ok (.agg (row 2 (I fun _ => 0))) w := fun _ => by kernel_rfl
theorem built2 : Try.prog.built 43 [] = some (row 2 (I fun _ => 0)) := by kernel_rfl
set_option maxRecDepth 100000 in
theorem eqA2_any (a : Nat → Int) (w : World) :
    Calls Try.prog 34 #[.agg (row 2 (I a)), .agg (row 2 (I a))] w fun e w' => e = .returned (.bool true) ∧ Below w.heap.size w w' := by
  go_enter Try.func34, Try.ntmps34
  go_wp2
  go_loopw [5] (fun i wr => ∃ k : Nat, k ≤ 2 ∧ i = .int .i64 k ∧ Blk wr w.heap.size 2 43 (I a) ∧ Blk wr (w.heap.size + 1) 2 43 (I a) ∧ Below w.heap.size w wr) (fun i _ => 2 - (intOf i).toNat)
  case atStart => exact ⟨0, by omega, rfl, (Blk.new _ _ _ _).alloc _, Blk.newS (by simp), ((Below.refl _ _).alloc (by omega) _).alloc (by simp) _⟩
  case round =>
    obtain ⟨k, hk, rfl, h0, h1, hb⟩ := hrel
    by_cases hlt : k < 2
    · have c0 : wr.cell? ⟨w.heap.size, k, none⟩ = some (.int .i64 (a k)) := h0.cell hlt
      have c1 : wr.cell? ⟨w.heap.size + 1, k, none⟩ = some (.int .i64 (a k)) := h1.cell hlt
      have H0 := Lib.hid h0; have H1 := Lib.hid h1; have HB := Lib.hid hb
      clear h0 h1 hb
      go_wp2
      go_quiet (fail)
      go_wp2
      go_roundw
      case rel => exact ⟨k + 1, by omega, by go_num, H0.out.drewN _, H1.out.drewN _, below_drewN HB.out _⟩
      case measure => simp [intOf]; omega
    · go_wp2
      go_ret
      exact ⟨rfl, hb⟩

theorem sz3 : (Try.prog.info? 81).map (·.size) = some 3 := by kernel_rfl
theorem zero3 : ∀ w, (zeroValue 81).run Try.prog w = .ok (.agg (row 3 (I fun _ => 0))) w := fun _ => by kernel_rfl
theorem built3 : Try.prog.built 81 [] = some (row 3 (I fun _ => 0)) := by kernel_rfl
theorem zero6 : ∀ w, (zeroValue 22).run Try.prog w = .ok (.agg (row 6 (I fun _ => 0))) w := fun _ => by kernel_rfl
theorem built6 : Try.prog.built 22 [] = some (row 6 (I fun _ => 0)) := by kernel_rfl
set_option maxRecDepth 100000 in
theorem eqA6_any (a : Nat → Int) (w : World) :
    Calls Try.prog 37 #[.agg (row 6 (I a)), .agg (row 6 (I a))] w fun e w' => e = .returned (.bool true) ∧ Below w.heap.size w w' := by
  go_enter Try.func37, Try.ntmps37
  go_wp2
  go_loopw [5] (fun i wr => ∃ k : Nat, k ≤ 6 ∧ i = .int .i64 k ∧ Blk wr w.heap.size 6 22 (I a) ∧ Blk wr (w.heap.size + 1) 6 22 (I a) ∧ Below w.heap.size w wr) (fun i _ => 6 - (intOf i).toNat)
  case atStart => exact ⟨0, by omega, rfl, (Blk.new _ _ _ _).alloc _, Blk.newS (by simp), ((Below.refl _ _).alloc (by omega) _).alloc (by simp) _⟩
  case round =>
    obtain ⟨k, hk, rfl, h0, h1, hb⟩ := hrel
    by_cases hlt : k < 6
    · have c0 : wr.cell? ⟨w.heap.size, k, none⟩ = some (.int .i64 (a k)) := h0.cell hlt
      have c1 : wr.cell? ⟨w.heap.size + 1, k, none⟩ = some (.int .i64 (a k)) := h1.cell hlt
      have H0 := Lib.hid h0; have H1 := Lib.hid h1; have HB := Lib.hid hb
      clear h0 h1 hb
      go_wp2
      go_quiet (fail)
      go_wp2
      go_roundw
      case rel => exact ⟨k + 1, by omega, by go_num, H0.out.drewN _, H1.out.drewN _, below_drewN HB.out _⟩
      case measure => simp [intOf]; omega
    · go_wp2
      go_ret
      exact ⟨rfl, hb⟩

theorem sz31 : (Try.prog.info? 76).map (·.size) = some 31 := by kernel_rfl
theorem zero31 : ∀ w, (zeroValue 76).run Try.prog w = .ok (.agg (row 31 (I fun _ => 0))) w := fun _ => by kernel_rfl
theorem built31 : Try.prog.built 76 [] = some (row 31 (I fun _ => 0)) := by kernel_rfl
theorem sz121 : (Try.prog.info? 65).map (·.size) = some 121 := by kernel_rfl
theorem zero121 : ∀ w, (zeroValue 65).run Try.prog w = .ok (.agg (row 121 (I fun _ => 0))) w := fun _ => by kernel_rfl
theorem built121 : Try.prog.built 65 [] = some (row 121 (I fun _ => 0)) := by kernel_rfl
end Go.Proofs.Ytiibpnhjdfjdkaa
