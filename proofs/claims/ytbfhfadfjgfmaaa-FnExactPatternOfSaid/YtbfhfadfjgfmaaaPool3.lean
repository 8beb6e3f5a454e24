/- Contracts of functions of this program, used by the laws of this seat. No condition beyond what each theorem states. -/
import Derived.Test.YtbfhfadfjgfmaaaPool2
set_option linter.unusedVariables false
set_option linter.unusedSimpArgs false
set_option linter.unusedSectionVars false
namespace Go.Proofs.Ytbfhfadfjgfmaaa
open Go.RowKit
abbrev isDieV : Value := .func (.func 87) #[] #[]
abbrev notDieV (B : Nat) : Value := .func (.func 110) #[] #[.pointer (some ⟨B, 0, none⟩)]
theorem kept {w w' : World} {B : Nat} {v : Value} (h : w.cell? ⟨B, 0, none⟩ = some v ∧ B < w.heap.size) (hb : Below w.heap.size w w') : w'.cell? ⟨B, 0, none⟩ = some v ∧ B < w'.heap.size :=
  ⟨(Below.cell hb (p := ⟨B, 0, none⟩) h.2).trans h.1, by have := hb.size; have := h.2; omega⟩
theorem notDie_any (d : Nat → Int) (B : Nat) (w : World) (hB : w.cell? ⟨B, 0, none⟩ = some isDieV ∧ B < w.heap.size) :
    Calls Try.prog 110 #[dieV d, .pointer (some ⟨B, 0, none⟩)] w fun e w' => e = .returned (.bool (!dieB d)) ∧ Below w.heap.size w w' := by
  have c0 : ∀ o, (w.alloc o).cell? ⟨B, 0, none⟩ = some isDieV := fun o => (kept hB ((Below.refl _ _).alloc (Nat.le_refl _) o)).1
  clear hB
  go_enter Try.func110, Try.ntmps110
  go_wp2_with (first | (refine wpList_load_blk rfl 53 _ rfl (Blk.new _ _ _ _) rfl Try.underlying53 sz6 ?_) | fail)
  go_at_call 87
  refine (isDie_any d _).mono ?_
  rintro e w1 ⟨rfl, hb1⟩
  have HB1 := Lib.hid (Below.trans (show Below w.heap.size w _ from (by (repeat (first | (with_reducible exact Below.refl _ _) | ((with_reducible refine below_setRow ?_ ?_ _); rotate_left; (focus (first | omega | (simp; done) | (simp; omega)))) | ((with_reducible refine Below.setCell ?_ ?_ _); rotate_left; (focus (first | omega | (simp; done) | (simp; omega)))) | ((with_reducible refine Below.alloc ?_ ?_ _); rotate_left; (focus (first | omega | (simp; done) | (simp; omega)))) | (with_reducible refine below_drewN ?_ _))))) (hb1.mono (by (focus (first | omega | (simp; done) | (simp; omega)))))); clear hb1
  go_wp2
  go_ret
  exact ⟨rfl, HB1.out⟩

theorem idxDie_any (o : Option Addr) (n c B : Nat) (x : Nat → Nat → Int) (hn : n ≤ 1048576) (w : World) (h : PoolAt w o n x) (hB : w.cell? ⟨B, 0, none⟩ = some isDieV ∧ B < w.heap.size) :
    Calls Try.prog 132 #[poolV o n c, notDieV B] w fun e w' => e = .returned (.int .i64 (firstNot (fun i => dieB (x i)) n)) ∧ Below w.heap.size w w' := by
  have H := Lib.hid h; clear h
  have K := Lib.hid hB; clear hB
  go_enter Try.func132, Try.ntmps132
  go_wp2
  go_loopw [8] (fun i wr => ∃ k : Nat, k ≤ n ∧ i = .int .i64 k ∧ Hid (∀ j, j < k → dieB (x j) = true) ∧ Below w.heap.size w wr) (fun i _ => n - (intOf i).toNat)
  case atStart => exact ⟨0, by omega, rfl, (fun j hj => by omega), Below.refl _ _⟩
  case round =>
    obtain ⟨k, hk, rfl, HO, hb⟩ := hrel
    have HB := Lib.hid hb
    by_cases hlt : k < n
    · obtain ⟨a, rfl, ha, hc⟩ := H.out.below hb k hlt
      have HC := Lib.hid hc
      have HK := Lib.hid (kept K.out hb)
      clear hc hb ha
      cases g : dieB (x k)
      · have F := Lib.hid (firstNot_at (p := fun i => dieB (x i)) hlt g HO.out)
        go_wp2_with (first | (refine wpList_load_cells rfl 53 _ rfl rfl (HC.out) Try.isAgg53 sz6 ?_) | fail)
        go_at_call 110
        refine (notDie_any (x k) B _ HK.out).mono ?_
        rintro e w1 ⟨rfl, hb1⟩
        have HB1 := Lib.hid (HB.out.trans (hb1.mono HB.out.size)); clear hb1
        rw [g]
        go_wp2
        go_ret
        exact ⟨by (rw [F.out]) <;> rfl, HB1.out⟩
      · have G : Hid (∀ j, j < k + 1 → dieB (x j) = true) := fun j hj => if e : j = k then e ▸ g else HO.out j (by omega)
        go_wp2_with (first | (refine wpList_load_cells rfl 53 _ rfl rfl (HC.out) Try.isAgg53 sz6 ?_) | fail)
        go_at_call 110
        refine (notDie_any (x k) B _ HK.out).mono ?_
        rintro e w1 ⟨rfl, hb1⟩
        have HB1 := Lib.hid (HB.out.trans (hb1.mono HB.out.size)); clear hb1
        rw [g]
        clear g
        go_wp2
        go_roundw
        case rel => exact ⟨k + 1, by omega, by go_num, G, HB1.out⟩
        case measure => simp [intOf]; omega
    · have F := Lib.hid (firstNot_none (p := fun i => dieB (x i)) (n := n) fun j hj => HO.out j (by omega))
      clear hb
      go_wp2
      go_ret
      exact ⟨by (rw [F.out]) <;> rfl, HB.out⟩
theorem containsDie_any (o : Option Addr) (n c B : Nat) (x : Nat → Nat → Int) (hn : n ≤ 1048576) (w : World) (h : PoolAt w o n x) (hB : w.cell? ⟨B, 0, none⟩ = some isDieV ∧ B < w.heap.size) :
    Calls Try.prog 109 #[poolV o n c, notDieV B] w fun e w' => e = .returned (.bool (!allB (fun i => dieB (x i)) n)) ∧ Below w.heap.size w w' := by
  have H := Lib.hid h; clear h
  have K := Lib.hid hB; clear hB
  have F := Lib.hid (firstNot_all (fun i => dieB (x i)) n)
  go_enter Try.func109, Try.ntmps109
  go_wp2_with fail
  go_at_call 132
  refine (idxDie_any o n c B x hn _ H.out K.out).mono ?_
  rintro e w1 ⟨rfl, hb1⟩
  have HB1 := Lib.hid hb1; clear hb1
  go_wp2
  go_ret
  exact ⟨by rw [← F.out]; rfl, HB1.out⟩
theorem areDice_any (o : Option Addr) (n c : Nat) (x : Nat → Nat → Int) (hn : n ≤ 1048576) (w : World) (h : PoolAt w o n x) :
    Calls Try.prog 86 #[poolV o n c, isDieV] w fun e w' => e = .returned (.bool (allB (fun i => dieB (x i)) n)) ∧ Below w.heap.size w w' := by
  have H := Lib.hid h; clear h
  go_enter Try.func86, Try.ntmps86
  go_wp2_with fail
  go_at_call 109
  refine (containsDie_any o n c _ x hn _ (H.out.alloc _) ⟨by simp, by simp⟩).mono ?_
  rintro e w1 ⟨rfl, hb1⟩
  have HB1 := Lib.hid (Below.trans (show Below w.heap.size w _ from (by (repeat (first | (with_reducible exact Below.refl _ _) | ((with_reducible refine below_setRow ?_ ?_ _); rotate_left; (focus (first | omega | (simp; done) | (simp; omega)))) | ((with_reducible refine Below.setCell ?_ ?_ _); rotate_left; (focus (first | omega | (simp; done) | (simp; omega)))) | ((with_reducible refine Below.alloc ?_ ?_ _); rotate_left; (focus (first | omega | (simp; done) | (simp; omega)))) | (with_reducible refine below_drewN ?_ _))))) (hb1.mono (by (focus (first | omega | (simp; done) | (simp; omega)))))); clear hb1
  go_wp2
  go_ret
  exact ⟨by simp, HB1.out⟩
theorem isPool_any (o : Option Addr) (n c : Nat) (x : Nat → Nat → Int) (hn : n ≤ 1048576) (w : World) (h : PoolAt w o n x) : Calls Try.prog 42 #[poolV o n c] w fun e w' => e = .returned (.bool (poolB n x)) ∧ Below w.heap.size w w' := by
  have H := Lib.hid h; clear h
  unfold poolB
  cases g : (decide ((1 : Int) ≤ (n : Int)) && decide ((n : Int) ≤ 4))
  · go_enter Try.func42, Try.ntmps42
    go_wp2_with fail
    go_at_call 85
    refine (within_any _ _ _ _).mono ?_
    rintro e w' ⟨rfl, rfl⟩
    rw [g]
    go_wp2
    go_ret
    exact ⟨rfl, Below.refl _ _⟩
  · go_enter Try.func42, Try.ntmps42
    go_wp2_with fail
    go_at_call 85
    refine (within_any _ _ _ _).mono ?_
    rintro e w' ⟨rfl, rfl⟩
    rw [g]
    go_wp2_with fail
    go_at_call 86
    refine (areDice_any o n c x hn _ H.out).mono ?_
    rintro e w1 ⟨rfl, hb1⟩
    have HB1 := Lib.hid hb1; clear hb1
    go_wp2
    go_ret
    exact ⟨by simp, HB1.out⟩
end Go.Proofs.Ytbfhfadfjgfmaaa
