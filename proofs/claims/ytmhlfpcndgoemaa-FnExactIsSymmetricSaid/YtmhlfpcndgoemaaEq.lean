/- Contracts of functions of this program, used by the laws of this seat. No condition beyond what each theorem states. -/
import Derived.Test.YtmhlfpcndgoemaaDice
set_option linter.unusedVariables false
set_option linter.unusedSimpArgs false
set_option linter.unusedSectionVars false
namespace Go.Proofs.Ytmhlfpcndgoemaa
open Go.RowKit

theorem sz2 : (Try.prog.info? 64).map (·.size) = some 2 := by kernel_rfl
theorem zero2 : ∀ w, (zeroValue 64).run Try.prog w = .ok (.agg (row 2 (I fun _ => 0))) w := fun _ => by kernel_rfl
theorem built2 : Try.prog.built 64 [] = some (row 2 (I fun _ => 0)) := by kernel_rfl
set_option maxRecDepth 100000 in
theorem eqA2_any (a : Nat → Int) (w : World) :
    Calls Try.prog 82 #[.agg (row 2 (I a)), .agg (row 2 (I a))] w fun e w' => e = .returned (.bool true) ∧ Below w.heap.size w w' := by
  go_enter Try.func82, Try.ntmps82
  go_wp2
  go_loopw [5] (fun i wr => ∃ k : Nat, k ≤ 2 ∧ i = .int .i64 k ∧ Blk wr w.heap.size 2 64 (I a) ∧ Blk wr (w.heap.size + 1) 2 64 (I a) ∧ Below w.heap.size w wr) (fun i _ => 2 - (intOf i).toNat)
  case atStart => exact ⟨0, by omega, rfl, (Blk.new _ _ _ _).alloc _, Blk.newS (by simp), ((Below.refl _ _).alloc (by omega) _).alloc (by simp) _⟩
  case round =>
    obtain ⟨k, hk, rfl, h0, h1, hb⟩ := hrel
    by_cases hlt : k < 2
    · have c0 : wr.cell? ⟨w.heap.size, k, none⟩ = some (.int .i64 (a k)) := h0.cell hlt
      have c1 : wr.cell? ⟨w.heap.size + 1, k, none⟩ = some (.int .i64 (a k)) := h1.cell hlt
      have H0 := Lib.hid h0; have H1 := Lib.hid h1; have HB := Lib.hid hb
      clear h0 h1 hb
      go_wp2
      go_quiet (fail)
      go_wp2
      go_roundw
      case rel => exact ⟨k + 1, by omega, by go_num, H0.out.drewN _, H1.out.drewN _, below_drewN HB.out _⟩
      case measure => simp [intOf]; omega
    · go_wp2
      go_ret
      exact ⟨rfl, hb⟩

theorem sz3 : (Try.prog.info? 47).map (·.size) = some 3 := by kernel_rfl
theorem zero3 : ∀ w, (zeroValue 47).run Try.prog w = .ok (.agg (row 3 (I fun _ => 0))) w := fun _ => by kernel_rfl
theorem built3 : Try.prog.built 47 [] = some (row 3 (I fun _ => 0)) := by kernel_rfl
set_option maxRecDepth 100000 in
theorem eqA3_any (a : Nat → Int) (w : World) :
    Calls Try.prog 65 #[.agg (row 3 (I a)), .agg (row 3 (I a))] w fun e w' => e = .returned (.bool true) ∧ Below w.heap.size w w' := by
  go_enter Try.func65, Try.ntmps65
  go_wp2
  go_loopw [5] (fun i wr => ∃ k : Nat, k ≤ 3 ∧ i = .int .i64 k ∧ Blk wr w.heap.size 3 47 (I a) ∧ Blk wr (w.heap.size + 1) 3 47 (I a) ∧ Below w.heap.size w wr) (fun i _ => 3 - (intOf i).toNat)
  case atStart => exact ⟨0, by omega, rfl, (Blk.new _ _ _ _).alloc _, Blk.newS (by simp), ((Below.refl _ _).alloc (by omega) _).alloc (by simp) _⟩
  case round =>
    obtain ⟨k, hk, rfl, h0, h1, hb⟩ := hrel
    by_cases hlt : k < 3
    · have c0 : wr.cell? ⟨w.heap.size, k, none⟩ = some (.int .i64 (a k)) := h0.cell hlt
      have c1 : wr.cell? ⟨w.heap.size + 1, k, none⟩ = some (.int .i64 (a k)) := h1.cell hlt
      have H0 := Lib.hid h0; have H1 := Lib.hid h1; have HB := Lib.hid hb
      clear h0 h1 hb
      go_wp2
      go_quiet (fail)
      go_wp2
      go_roundw
      case rel => exact ⟨k + 1, by omega, by go_num, H0.out.drewN _, H1.out.drewN _, below_drewN HB.out _⟩
      case measure => simp [intOf]; omega
    · go_wp2
      go_ret
      exact ⟨rfl, hb⟩




theorem zero6 : ∀ w, (zeroValue 22).run Try.prog w = .ok (.agg (row 6 (I fun _ => 0))) w := fun _ => by kernel_rfl
theorem built6 : Try.prog.built 22 [] = some (row 6 (I fun _ => 0)) := by kernel_rfl
set_option maxRecDepth 100000 in
theorem eqA6_any (a : Nat → Int) (w : World) :
    Calls Try.prog 48 #[.agg (row 6 (I a)), .agg (row 6 (I a))] w fun e w' => e = .returned (.bool true) ∧ Below w.heap.size w w' := by
  go_enter Try.func48, Try.ntmps48
  go_wp2
  go_loopw [5] (fun i wr => ∃ k : Nat, k ≤ 6 ∧ i = .int .i64 k ∧ Blk wr w.heap.size 6 22 (I a) ∧ Blk wr (w.heap.size + 1) 6 22 (I a) ∧ Below w.heap.size w wr) (fun i _ => 6 - (intOf i).toNat)
  case atStart => exact ⟨0, by omega, rfl, (Blk.new _ _ _ _).alloc _, Blk.newS (by simp), ((Below.refl _ _).alloc (by omega) _).alloc (by simp) _⟩
  case round =>
    obtain ⟨k, hk, rfl, h0, h1, hb⟩ := hrel
    by_cases hlt : k < 6
    · have c0 : wr.cell? ⟨w.heap.size, k, none⟩ = some (.int .i64 (a k)) := h0.cell hlt
      have c1 : wr.cell? ⟨w.heap.size + 1, k, none⟩ = some (.int .i64 (a k)) := h1.cell hlt
      have H0 := Lib.hid h0; have H1 := Lib.hid h1; have HB := Lib.hid hb
      clear h0 h1 hb
      go_wp2
      go_quiet (fail)
      go_wp2
      go_roundw
      case rel => exact ⟨k + 1, by omega, by go_num, H0.out.drewN _, H1.out.drewN _, below_drewN HB.out _⟩
      case measure => simp [intOf]; omega
    · go_wp2
      go_ret
      exact ⟨rfl, hb⟩

theorem sz31 : (Try.prog.info? 28).map (·.size) = some 31 := by kernel_rfl
theorem zero31 : ∀ w, (zeroValue 28).run Try.prog w = .ok (.agg (row 31 (I fun _ => 0))) w := fun _ => by kernel_rfl
theorem built31 : Try.prog.built 28 [] = some (row 31 (I fun _ => 0)) := by kernel_rfl
set_option maxRecDepth 100000 in
theorem eqA31_any (a : Nat → Int) (w : World) :
    Calls Try.prog 45 #[.agg (row 31 (I a)), .agg (row 31 (I a))] w fun e w' => e = .returned (.bool true) ∧ Below w.heap.size w w' := by
  go_enter Try.func45, Try.ntmps45
  go_wp2
  go_loopw [5] (fun i wr => ∃ k : Nat, k ≤ 31 ∧ i = .int .i64 k ∧ Blk wr w.heap.size 31 28 (I a) ∧ Blk wr (w.heap.size + 1) 31 28 (I a) ∧ Below w.heap.size w wr) (fun i _ => 31 - (intOf i).toNat)
  case atStart => exact ⟨0, by omega, rfl, (Blk.new _ _ _ _).alloc _, Blk.newS (by simp), ((Below.refl _ _).alloc (by omega) _).alloc (by simp) _⟩
  case round =>
    obtain ⟨k, hk, rfl, h0, h1, hb⟩ := hrel
    by_cases hlt : k < 31
    · have c0 : wr.cell? ⟨w.heap.size, k, none⟩ = some (.int .i64 (a k)) := h0.cell hlt
      have c1 : wr.cell? ⟨w.heap.size + 1, k, none⟩ = some (.int .i64 (a k)) := h1.cell hlt
      have H0 := Lib.hid h0; have H1 := Lib.hid h1; have HB := Lib.hid hb
      clear h0 h1 hb
      go_wp2
      go_quiet (fail)
      go_wp2
      go_roundw
      case rel => exact ⟨k + 1, by omega, by go_num, H0.out.drewN _, H1.out.drewN _, below_drewN HB.out _⟩
      case measure => simp [intOf]; omega
    · go_wp2
      go_ret
      exact ⟨rfl, hb⟩

theorem sz121 : (Try.prog.info? 58).map (·.size) = some 121 := by kernel_rfl
theorem zero121 : ∀ w, (zeroValue 58).run Try.prog w = .ok (.agg (row 121 (I fun _ => 0))) w := fun _ => by kernel_rfl
theorem built121 : Try.prog.built 58 [] = some (row 121 (I fun _ => 0)) := by kernel_rfl
set_option maxRecDepth 100000 in
theorem eqA121_any (a : Nat → Int) (w : World) :
    Calls Try.prog 77 #[.agg (row 121 (I a)), .agg (row 121 (I a))] w fun e w' => e = .returned (.bool true) ∧ Below w.heap.size w w' := by
  go_enter Try.func77, Try.ntmps77
  go_wp2
  go_loopw [5] (fun i wr => ∃ k : Nat, k ≤ 121 ∧ i = .int .i64 k ∧ Blk wr w.heap.size 121 58 (I a) ∧ Blk wr (w.heap.size + 1) 121 58 (I a) ∧ Below w.heap.size w wr) (fun i _ => 121 - (intOf i).toNat)
  case atStart => exact ⟨0, by omega, rfl, (Blk.new _ _ _ _).alloc _, Blk.newS (by simp), ((Below.refl _ _).alloc (by omega) _).alloc (by simp) _⟩
  case round =>
    obtain ⟨k, hk, rfl, h0, h1, hb⟩ := hrel
    by_cases hlt : k < 121
    · have c0 : wr.cell? ⟨w.heap.size, k, none⟩ = some (.int .i64 (a k)) := h0.cell hlt
      have c1 : wr.cell? ⟨w.heap.size + 1, k, none⟩ = some (.int .i64 (a k)) := h1.cell hlt
      have H0 := Lib.hid h0; have H1 := Lib.hid h1; have HB := Lib.hid hb
      clear h0 h1 hb
      go_wp2
      go_quiet (fail)
      go_wp2
      go_roundw
      case rel => exact ⟨k + 1, by omega, by go_num, H0.out.drewN _, H1.out.drewN _, below_drewN HB.out _⟩
      case measure => simp [intOf]; omega
    · go_wp2
      go_ret
      exact ⟨rfl, hb⟩

end Go.Proofs.Ytmhlfpcndgoemaa
