/- Contracts of functions of this program, used by the laws of this seat. No condition beyond what each theorem states. -/
import Derived.Test.YtbfhfadfjgfmaaaDice
set_option linter.unusedVariables false
set_option linter.unusedSimpArgs false
set_option linter.unusedSectionVars false
namespace Go.Proofs.Ytbfhfadfjgfmaaa
open Go.RowKit

theorem sz2 : (Try.prog.info? 43).map (·.size) = some 2 := by kernel_rfl
theorem zero2 : ∀ w, (zeroValue 43).run Try.prog w = .ok (.agg (row 2 (I fun _ => 0))) w := fun _ => by kernel_rfl
theorem built2 : Try.prog.built 43 [] = some (row 2 (I fun _ => 0)) := by kernel_rfl
set_option maxRecDepth 100000 in
theorem eqA2_any (a : Nat → Int) (w : World) :
    Calls Try.prog 30 #[.agg (row 2 (I a)), .agg (row 2 (I a))] w fun e w' => e = .returned (.bool true) ∧ Below w.heap.size w w' := by
  go_enter Try.func30, Try.ntmps30
  go_wp2
  go_loopw [5] (fun i wr => ∃ k : Nat, k ≤ 2 ∧ i = .int .i64 k ∧ Blk wr w.heap.size 2 43 (I a) ∧ Blk wr (w.heap.size + 1) 2 43 (I a) ∧ Below w.heap.size w wr) (fun i _ => 2 - (intOf i).toNat)
  case atStart => exact ⟨0, by omega, rfl, (Blk.new _ _ _ _).alloc _, Blk.newS (by simp), ((Below.refl _ _).alloc (by omega) _).alloc (by simp) _⟩
  case round =>
    obtain ⟨k, hk, rfl, h0, h1, hb⟩ := hrel
    by_cases hlt : k < 2
    · have c0 : wr.cell? ⟨w.heap.size, k, none⟩ = some (.int .i64 (a k)) := h0.cell hlt
      have c1 : wr.cell? ⟨w.heap.size + 1, k, none⟩ = some (.int .i64 (a k)) := h1.cell hlt
      have H0 := Lib.hid h0; have H1 := Lib.hid h1; have HB := Lib.hid hb
      clear h0 h1 hb
      go_wp2
      go_quiet (fail)
      go_wp2
      go_roundw
      case rel => exact ⟨k + 1, by omega, by go_num, H0.out.drewN _, H1.out.drewN _, below_drewN HB.out _⟩
      case measure => simp [intOf]; omega
    · go_wp2
      go_ret
      exact ⟨rfl, hb⟩

theorem sz3 : (Try.prog.info? 86).map (·.size) = some 3 := by kernel_rfl
theorem zero3 : ∀ w, (zeroValue 86).run Try.prog w = .ok (.agg (row 3 (I fun _ => 0))) w := fun _ => by kernel_rfl
theorem built3 : Try.prog.built 86 [] = some (row 3 (I fun _ => 0)) := by kernel_rfl
theorem sz4 : (Try.prog.info? 29).map (·.size) = some 4 := by kernel_rfl
theorem zero4 : ∀ w, (zeroValue 29).run Try.prog w = .ok (.agg (row 4 (I fun _ => 0))) w := fun _ => by kernel_rfl
theorem built4 : Try.prog.built 29 [] = some (row 4 (I fun _ => 0)) := by kernel_rfl
set_option maxRecDepth 100000 in
theorem eqA4_any (a : Nat → Int) (w : World) :
    Calls Try.prog 19 #[.agg (row 4 (I a)), .agg (row 4 (I a))] w fun e w' => e = .returned (.bool true) ∧ Below w.heap.size w w' := by
  go_enter Try.func19, Try.ntmps19
  go_wp2
  go_loopw [5] (fun i wr => ∃ k : Nat, k ≤ 4 ∧ i = .int .i64 k ∧ Blk wr w.heap.size 4 29 (I a) ∧ Blk wr (w.heap.size + 1) 4 29 (I a) ∧ Below w.heap.size w wr) (fun i _ => 4 - (intOf i).toNat)
  case atStart => exact ⟨0, by omega, rfl, (Blk.new _ _ _ _).alloc _, Blk.newS (by simp), ((Below.refl _ _).alloc (by omega) _).alloc (by simp) _⟩
  case round =>
    obtain ⟨k, hk, rfl, h0, h1, hb⟩ := hrel
    by_cases hlt : k < 4
    · have c0 : wr.cell? ⟨w.heap.size, k, none⟩ = some (.int .i64 (a k)) := h0.cell hlt
      have c1 : wr.cell? ⟨w.heap.size + 1, k, none⟩ = some (.int .i64 (a k)) := h1.cell hlt
      have H0 := Lib.hid h0; have H1 := Lib.hid h1; have HB := Lib.hid hb
      clear h0 h1 hb
      go_wp2
      go_quiet (fail)
      go_wp2
      go_roundw
      case rel => exact ⟨k + 1, by omega, by go_num, H0.out.drewN _, H1.out.drewN _, below_drewN HB.out _⟩
      case measure => simp [intOf]; omega
    · go_wp2
      go_ret
      exact ⟨rfl, hb⟩

theorem zero6 : ∀ w, (zeroValue 53).run Try.prog w = .ok (.agg (row 6 (I fun _ => 0))) w := fun _ => by kernel_rfl
theorem built6 : Try.prog.built 53 [] = some (row 6 (I fun _ => 0)) := by kernel_rfl
set_option maxRecDepth 100000 in
theorem eqA6_any (a : Nat → Int) (w : World) :
    Calls Try.prog 46 #[.agg (row 6 (I a)), .agg (row 6 (I a))] w fun e w' => e = .returned (.bool true) ∧ Below w.heap.size w w' := by
  go_enter Try.func46, Try.ntmps46
  go_wp2
  go_loopw [5] (fun i wr => ∃ k : Nat, k ≤ 6 ∧ i = .int .i64 k ∧ Blk wr w.heap.size 6 53 (I a) ∧ Blk wr (w.heap.size + 1) 6 53 (I a) ∧ Below w.heap.size w wr) (fun i _ => 6 - (intOf i).toNat)
  case atStart => exact ⟨0, by omega, rfl, (Blk.new _ _ _ _).alloc _, Blk.newS (by simp), ((Below.refl _ _).alloc (by omega) _).alloc (by simp) _⟩
  case round =>
    obtain ⟨k, hk, rfl, h0, h1, hb⟩ := hrel
    by_cases hlt : k < 6
    · have c0 : wr.cell? ⟨w.heap.size, k, none⟩ = some (.int .i64 (a k)) := h0.cell hlt
      have c1 : wr.cell? ⟨w.heap.size + 1, k, none⟩ = some (.int .i64 (a k)) := h1.cell hlt
      have H0 := Lib.hid h0; have H1 := Lib.hid h1; have HB := Lib.hid hb
      clear h0 h1 hb
      go_wp2
      go_quiet (fail)
      go_wp2
      go_roundw
      case rel => exact ⟨k + 1, by omega, by go_num, H0.out.drewN _, H1.out.drewN _, below_drewN HB.out _⟩
      case measure => simp [intOf]; omega
    · go_wp2
      go_ret
      exact ⟨rfl, hb⟩

end Go.Proofs.Ytbfhfadfjgfmaaa
