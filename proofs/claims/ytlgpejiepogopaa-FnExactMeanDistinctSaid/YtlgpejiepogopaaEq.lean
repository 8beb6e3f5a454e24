/- Contracts of functions of this program, used by the laws of this seat. No condition beyond what each theorem states. -/
import Derived.Test.YtlgpejiepogopaaDice
set_option linter.unusedVariables false
set_option linter.unusedSimpArgs false
set_option linter.unusedSectionVars false
namespace Go.Proofs.Ytlgpejiepogopaa
open Go.RowKit

theorem sz2 : (Try.prog.info? 51).map (·.size) = some 2 := by kernel_rfl
theorem zero2 : ∀ w, (zeroValue 51).run Try.prog w = .ok (.agg (row 2 (I fun _ => 0))) w := fun _ => by kernel_rfl
theorem built2 : Try.prog.built 51 [] = some (row 2 (I fun _ => 0)) := by kernel_rfl
set_option maxRecDepth 100000 in
theorem eqA2_any (a : Nat → Int) (w : World) :
    Calls Try.prog 45 #[.agg (row 2 (I a)), .agg (row 2 (I a))] w fun e w' => e = .returned (.bool true) ∧ Below w.heap.size w w' := by
  go_enter Try.func45, Try.ntmps45
  go_wp2
  go_loopw [5] (fun i wr => ∃ k : Nat, k ≤ 2 ∧ i = .int .i64 k ∧ Blk wr w.heap.size 2 51 (I a) ∧ Blk wr (w.heap.size + 1) 2 51 (I a) ∧ Below w.heap.size w wr) (fun i _ => 2 - (intOf i).toNat)
  case atStart => exact ⟨0, by omega, rfl, (Blk.new _ _ _ _).alloc _, Blk.newS (by simp), ((Below.refl _ _).alloc (by omega) _).alloc (by simp) _⟩
  case round =>
    obtain ⟨k, hk, rfl, h0, h1, hb⟩ := hrel
    by_cases hlt : k < 2
    · have c0 : wr.cell? ⟨w.heap.size, k, none⟩ = some (.int .i64 (a k)) := h0.cell hlt
      have c1 : wr.cell? ⟨w.heap.size + 1, k, none⟩ = some (.int .i64 (a k)) := h1.cell hlt
      have H0 := Lib.hid h0; have H1 := Lib.hid h1; have HB := Lib.hid hb
      clear h0 h1 hb
      go_wp2
      go_quiet (fail)
      go_wp2
      go_roundw
      case rel => exact ⟨k + 1, by omega, by go_num, H0.out.drewN _, H1.out.drewN _, below_drewN HB.out _⟩
      case measure => simp [intOf]; omega
    · go_wp2
      go_ret
      exact ⟨rfl, hb⟩

theorem sz3 : (Try.prog.info? 130).map (·.size) = some 3 := by kernel_rfl
theorem zero3 : ∀ w, (zeroValue 130).run Try.prog w = .ok (.agg (row 3 (I fun _ => 0))) w := fun _ => by kernel_rfl
theorem built3 : Try.prog.built 130 [] = some (row 3 (I fun _ => 0)) := by kernel_rfl
theorem sz4 : (Try.prog.info? 57).map (·.size) = some 4 := by kernel_rfl
theorem zero4 : ∀ w, (zeroValue 57).run Try.prog w = .ok (.agg (row 4 (I fun _ => 0))) w := fun _ => by kernel_rfl
theorem built4 : Try.prog.built 57 [] = some (row 4 (I fun _ => 0)) := by kernel_rfl
set_option maxRecDepth 100000 in
theorem eqA4_any (a : Nat → Int) (w : World) :
    Calls Try.prog 50 #[.agg (row 4 (I a)), .agg (row 4 (I a))] w fun e w' => e = .returned (.bool true) ∧ Below w.heap.size w w' := by
  go_enter Try.func50, Try.ntmps50
  go_wp2
  go_loopw [5] (fun i wr => ∃ k : Nat, k ≤ 4 ∧ i = .int .i64 k ∧ Blk wr w.heap.size 4 57 (I a) ∧ Blk wr (w.heap.size + 1) 4 57 (I a) ∧ Below w.heap.size w wr) (fun i _ => 4 - (intOf i).toNat)
  case atStart => exact ⟨0, by omega, rfl, (Blk.new _ _ _ _).alloc _, Blk.newS (by simp), ((Below.refl _ _).alloc (by omega) _).alloc (by simp) _⟩
  case round =>
    obtain ⟨k, hk, rfl, h0, h1, hb⟩ := hrel
    by_cases hlt : k < 4
    · have c0 : wr.cell? ⟨w.heap.size, k, none⟩ = some (.int .i64 (a k)) := h0.cell hlt
      have c1 : wr.cell? ⟨w.heap.size + 1, k, none⟩ = some (.int .i64 (a k)) := h1.cell hlt
      have H0 := Lib.hid h0; have H1 := Lib.hid h1; have HB := Lib.hid hb
      clear h0 h1 hb
      go_wp2
      go_quiet (fail)
      go_wp2
      go_roundw
      case rel => exact ⟨k + 1, by omega, by go_num, H0.out.drewN _, H1.out.drewN _, below_drewN HB.out _⟩
      case measure => simp [intOf]; omega
    · go_wp2
      go_ret
      exact ⟨rfl, hb⟩

theorem sz5 : (Try.prog.info? 30).map (·.size) = some 5 := by kernel_rfl
theorem zero5 : ∀ w, (zeroValue 30).run Try.prog w = .ok (.agg (row 5 (I fun _ => 0))) w := fun _ => by kernel_rfl
theorem built5 : Try.prog.built 30 [] = some (row 5 (I fun _ => 0)) := by kernel_rfl
set_option maxRecDepth 100000 in
theorem eqA5_any (a : Nat → Int) (w : World) :
    Calls Try.prog 27 #[.agg (row 5 (I a)), .agg (row 5 (I a))] w fun e w' => e = .returned (.bool true) ∧ Below w.heap.size w w' := by
  go_enter Try.func27, Try.ntmps27
  go_wp2
  go_loopw [5] (fun i wr => ∃ k : Nat, k ≤ 5 ∧ i = .int .i64 k ∧ Blk wr w.heap.size 5 30 (I a) ∧ Blk wr (w.heap.size + 1) 5 30 (I a) ∧ Below w.heap.size w wr) (fun i _ => 5 - (intOf i).toNat)
  case atStart => exact ⟨0, by omega, rfl, (Blk.new _ _ _ _).alloc _, Blk.newS (by simp), ((Below.refl _ _).alloc (by omega) _).alloc (by simp) _⟩
  case round =>
    obtain ⟨k, hk, rfl, h0, h1, hb⟩ := hrel
    by_cases hlt : k < 5
    · have c0 : wr.cell? ⟨w.heap.size, k, none⟩ = some (.int .i64 (a k)) := h0.cell hlt
      have c1 : wr.cell? ⟨w.heap.size + 1, k, none⟩ = some (.int .i64 (a k)) := h1.cell hlt
      have H0 := Lib.hid h0; have H1 := Lib.hid h1; have HB := Lib.hid hb
      clear h0 h1 hb
      go_wp2
      go_quiet (fail)
      go_wp2
      go_roundw
      case rel => exact ⟨k + 1, by omega, by go_num, H0.out.drewN _, H1.out.drewN _, below_drewN HB.out _⟩
      case measure => simp [intOf]; omega
    · go_wp2
      go_ret
      exact ⟨rfl, hb⟩


theorem zero6 : ∀ w, (zeroValue 22).run Try.prog w = .ok (.agg (row 6 (I fun _ => 0))) w := fun _ => by kernel_rfl
theorem built6 : Try.prog.built 22 [] = some (row 6 (I fun _ => 0)) := by kernel_rfl
set_option maxRecDepth 100000 in
theorem eqA6_any (a : Nat → Int) (w : World) :
    Calls Try.prog 22 #[.agg (row 6 (I a)), .agg (row 6 (I a))] w fun e w' => e = .returned (.bool true) ∧ Below w.heap.size w w' := by
  go_enter Try.func22, Try.ntmps22
  go_wp2
  go_loopw [5] (fun i wr => ∃ k : Nat, k ≤ 6 ∧ i = .int .i64 k ∧ Blk wr w.heap.size 6 22 (I a) ∧ Blk wr (w.heap.size + 1) 6 22 (I a) ∧ Below w.heap.size w wr) (fun i _ => 6 - (intOf i).toNat)
  case atStart => exact ⟨0, by omega, rfl, (Blk.new _ _ _ _).alloc _, Blk.newS (by simp), ((Below.refl _ _).alloc (by omega) _).alloc (by simp) _⟩
  case round =>
    obtain ⟨k, hk, rfl, h0, h1, hb⟩ := hrel
    by_cases hlt : k < 6
    · have c0 : wr.cell? ⟨w.heap.size, k, none⟩ = some (.int .i64 (a k)) := h0.cell hlt
      have c1 : wr.cell? ⟨w.heap.size + 1, k, none⟩ = some (.int .i64 (a k)) := h1.cell hlt
      have H0 := Lib.hid h0; have H1 := Lib.hid h1; have HB := Lib.hid hb
      clear h0 h1 hb
      go_wp2
      go_quiet (fail)
      go_wp2
      go_roundw
      case rel => exact ⟨k + 1, by omega, by go_num, H0.out.drewN _, H1.out.drewN _, below_drewN HB.out _⟩
      case measure => simp [intOf]; omega
    · go_wp2
      go_ret
      exact ⟨rfl, hb⟩

theorem sz31 : (Try.prog.info? 37).map (·.size) = some 31 := by kernel_rfl
theorem zero31 : ∀ w, (zeroValue 37).run Try.prog w = .ok (.agg (row 31 (I fun _ => 0))) w := fun _ => by kernel_rfl
theorem built31 : Try.prog.built 37 [] = some (row 31 (I fun _ => 0)) := by kernel_rfl
set_option maxRecDepth 100000 in
theorem eqA31_any (a : Nat → Int) (w : World) :
    Calls Try.prog 31 #[.agg (row 31 (I a)), .agg (row 31 (I a))] w fun e w' => e = .returned (.bool true) ∧ Below w.heap.size w w' := by
  go_enter Try.func31, Try.ntmps31
  go_wp2
  go_loopw [5] (fun i wr => ∃ k : Nat, k ≤ 31 ∧ i = .int .i64 k ∧ Blk wr w.heap.size 31 37 (I a) ∧ Blk wr (w.heap.size + 1) 31 37 (I a) ∧ Below w.heap.size w wr) (fun i _ => 31 - (intOf i).toNat)
  case atStart => exact ⟨0, by omega, rfl, (Blk.new _ _ _ _).alloc _, Blk.newS (by simp), ((Below.refl _ _).alloc (by omega) _).alloc (by simp) _⟩
  case round =>
    obtain ⟨k, hk, rfl, h0, h1, hb⟩ := hrel
    by_cases hlt : k < 31
    · have c0 : wr.cell? ⟨w.heap.size, k, none⟩ = some (.int .i64 (a k)) := h0.cell hlt
      have c1 : wr.cell? ⟨w.heap.size + 1, k, none⟩ = some (.int .i64 (a k)) := h1.cell hlt
      have H0 := Lib.hid h0; have H1 := Lib.hid h1; have HB := Lib.hid hb
      clear h0 h1 hb
      go_wp2
      go_quiet (fail)
      go_wp2
      go_roundw
      case rel => exact ⟨k + 1, by omega, by go_num, H0.out.drewN _, H1.out.drewN _, below_drewN HB.out _⟩
      case measure => simp [intOf]; omega
    · go_wp2
      go_ret
      exact ⟨rfl, hb⟩

theorem sz121 : (Try.prog.info? 41).map (·.size) = some 121 := by kernel_rfl
theorem zero121 : ∀ w, (zeroValue 41).run Try.prog w = .ok (.agg (row 121 (I fun _ => 0))) w := fun _ => by kernel_rfl
theorem built121 : Try.prog.built 41 [] = some (row 121 (I fun _ => 0)) := by kernel_rfl
set_option maxRecDepth 100000 in
theorem eqA121_any (a : Nat → Int) (w : World) :
    Calls Try.prog 34 #[.agg (row 121 (I a)), .agg (row 121 (I a))] w fun e w' => e = .returned (.bool true) ∧ Below w.heap.size w w' := by
  go_enter Try.func34, Try.ntmps34
  go_wp2
  go_loopw [5] (fun i wr => ∃ k : Nat, k ≤ 121 ∧ i = .int .i64 k ∧ Blk wr w.heap.size 121 41 (I a) ∧ Blk wr (w.heap.size + 1) 121 41 (I a) ∧ Below w.heap.size w wr) (fun i _ => 121 - (intOf i).toNat)
  case atStart => exact ⟨0, by omega, rfl, (Blk.new _ _ _ _).alloc _, Blk.newS (by simp), ((Below.refl _ _).alloc (by omega) _).alloc (by simp) _⟩
  case round =>
    obtain ⟨k, hk, rfl, h0, h1, hb⟩ := hrel
    by_cases hlt : k < 121
    · have c0 : wr.cell? ⟨w.heap.size, k, none⟩ = some (.int .i64 (a k)) := h0.cell hlt
      have c1 : wr.cell? ⟨w.heap.size + 1, k, none⟩ = some (.int .i64 (a k)) := h1.cell hlt
      have H0 := Lib.hid h0; have H1 := Lib.hid h1; have HB := Lib.hid hb
      clear h0 h1 hb
      go_wp2
      go_quiet (fail)
      go_wp2
      go_roundw
      case rel => exact ⟨k + 1, by omega, by go_num, H0.out.drewN _, H1.out.drewN _, below_drewN HB.out _⟩
      case measure => simp [intOf]; omega
    · go_wp2
      go_ret
      exact ⟨rfl, hb⟩

end Go.Proofs.Ytlgpejiepogopaa
