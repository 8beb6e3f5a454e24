/- Contracts of functions of this program, used by the laws of this seat. No condition beyond what each theorem states. -/
import Derived.Test.YtbfhfadfjgfmaaaDice
set_option linter.unusedVariables false
set_option linter.unusedSimpArgs false
set_option linter.unusedSectionVars false
namespace Go.Proofs.Ytbfhfadfjgfmaaa
open Go.RowKit

theorem within_any (x a b : Int) (w : World) :
    Calls Try.prog 85 #[.int .i64 x, .int .i64 a, .int .i64 b] w fun e w' => e = .returned (.bool (decide (a ≤ x) && decide (x ≤ b))) ∧ w = w' := by
  by_cases h1 : a ≤ x
  · go_enter Try.func85, Try.ntmps85
    go_wp2
    go_ret
    exact ⟨by simp [h1], rfl⟩
  · go_enter Try.func85, Try.ntmps85
    go_wp2
    go_ret
    have h2 : ¬ a ≤ x := by omega
    exact ⟨by simp [h2], rfl⟩

def faceB (x : Int) : Bool := decide (0 ≤ x) && decide (x ≤ 30)
theorem isFace_any (x : Int) (w : World) : Calls Try.prog 112 #[.int .i64 x] w fun e w' => e = .returned (.bool (faceB x)) ∧ w = w' := by
  go_enter Try.func112, Try.ntmps112
  go_wp2_with (go_at_call 85; refine (within_any _ _ _ _).mono ?_; rintro e w' ⟨rfl, rfl⟩)
  go_ret
  exact ⟨rfl, rfl⟩

/-- The closure that asks whether an int is no face. -/
abbrev notFaceV (B : Nat) : Value := .func (.func 134) #[] #[.pointer (some ⟨B, 0, none⟩)]
abbrev isFaceV : Value := .func (.func 112) #[] #[]
theorem notFace_any (x : Int) (B : Nat) (w : World) (hB : w.cell? ⟨B, 0, none⟩ = some isFaceV) :
    Calls Try.prog 134 #[.int .i64 x, .pointer (some ⟨B, 0, none⟩)] w fun e w' => e = .returned (.bool (!faceB x)) ∧ w = w' := by
  go_enter Try.func134, Try.ntmps134
  go_wp2_with (go_at_call 112; refine (isFace_any _ _).mono ?_; rintro e w' ⟨rfl, rfl⟩)
  go_ret
  exact ⟨rfl, rfl⟩

/-- IndexFunc over ints with the closure 'no face'. -/
theorem idxFace_any (b n B : Nat) (T : TypeId) (d : Nat → Int) (hn : n ≤ 1000) (w : World) (h0 : Blk w b n T (I d)) (hB : w.cell? ⟨B, 0, none⟩ = some isFaceV) :
    Calls Try.prog 159 #[.slice (some ⟨b, 0, none⟩) n n, notFaceV B] w fun e w' => e = .returned (.int .i64 (firstNot (fun i => faceB (d i)) n)) ∧ w = w' := by
  have H0 := Lib.hid h0; clear h0
  go_enter Try.func159, Try.ntmps159
  go_wp2
  go_loop [8] (fun i => ∃ k : Nat, k ≤ n ∧ i = .int .i64 k ∧ Hid (∀ j, j < k → faceB (d j) = true)) (fun i => n - (intOf i).toNat)
  case atStart => exact ⟨0, by omega, rfl, fun j hj => by omega⟩
  case round =>
    obtain ⟨k, hk, rfl, HO⟩ := hrel
    by_cases hlt : k < n
    · have c0 : w.cell? ⟨b, k, none⟩ = some (.int .i64 (d k)) := H0.out.cell hlt
      cases hf' : faceB (d k)
      · have hf : (!faceB (d k)) = true := by rw [hf']; rfl
        have F := Lib.hid (firstNot_at (p := fun i => faceB (d i)) hlt hf' HO.out)
        go_wp2_with (go_at_call 134; refine (notFace_any _ _ _ hB).mono ?_; rintro e w' ⟨rfl, rfl⟩)
        go_ret
        exact ⟨by (rw [F.out]) <;> rfl, rfl⟩
      · have hf : (!faceB (d k)) = false := by rw [hf']; rfl
        have G : Hid (∀ j, j < k + 1 → faceB (d j) = true) := fun j hj => if e : j = k then e ▸ hf' else HO.out j (by omega)
        go_wp2_with (go_at_call 134; refine (notFace_any _ _ _ hB).mono ?_; rintro e w' ⟨rfl, rfl⟩)
        go_round
        case rel => exact ⟨k + 1, by omega, by go_num, G⟩
        case measure => simp [intOf]; omega
    · have F := Lib.hid (firstNot_none (p := fun i => faceB (d i)) (n := n) fun j hj => HO.out j (by omega))
      go_wp2
      go_ret
      exact ⟨by (rw [F.out]) <;> rfl, rfl⟩

theorem containsFace_any (b n B : Nat) (T : TypeId) (d : Nat → Int) (hn : n ≤ 1000) (w : World) (h0 : Blk w b n T (I d)) (hB : w.cell? ⟨B, 0, none⟩ = some isFaceV) :
    Calls Try.prog 133 #[.slice (some ⟨b, 0, none⟩) n n, notFaceV B] w fun e w' => e = .returned (.bool (!allB (fun i => faceB (d i)) n)) ∧ w = w' := by
  have H0 := Lib.hid h0; clear h0
  have F := Lib.hid (firstNot_all (fun i => faceB (d i)) n)
  go_enter Try.func133, Try.ntmps133
  go_wp2_with (go_at_call 159; refine (idxFace_any _ _ _ T _ hn _ H0.out hB).mono ?_; rintro e w' ⟨rfl, rfl⟩)
  go_ret
  exact ⟨by rw [← F.out]; rfl, rfl⟩

theorem areFaces_any (b n : Nat) (T : TypeId) (d : Nat → Int) (hn : n ≤ 1000) (w : World) (h0 : Blk w b n T (I d)) :
    Calls Try.prog 111 #[.slice (some ⟨b, 0, none⟩) n n, isFaceV] w fun e w' => e = .returned (.bool (allB (fun i => faceB (d i)) n)) ∧ Below w.heap.size w w' := by
  have H0 := Lib.hid h0; clear h0
  go_enter Try.func111, Try.ntmps111
  go_wp2_with (go_at_call 133; refine (containsFace_any _ _ _ T _ hn _ (H0.out.alloc _) (by simp)).mono ?_; rintro e w' ⟨rfl, rfl⟩)
  go_ret
  exact ⟨by simp, (Below.refl _ _).alloc (by omega) _⟩

theorem isNaN_any (x : Int) (w : World) : Calls Try.prog 108 #[.int .i64 x] w fun e w' => e = .returned (.bool false) ∧ w = w' := by
  go_enter Try.func108, Try.ntmps108
  go_wp2
  go_ret
  exact ⟨by simp, rfl⟩
theorem less_any (x y : Int) (w : World) : Calls Try.prog 135 #[.int .i64 x, .int .i64 y] w fun e w' => e = .returned (.bool (decide (x < y))) ∧ w = w' := by
  go_enter Try.func135, Try.ntmps135
  go_wp2_with (go_at_call 108; refine (isNaN_any _ _).mono ?_; rintro e w' ⟨rfl, rfl⟩)
  go_ret
  exact ⟨by simp, rfl⟩

theorem sorted_any (b n : Nat) (T : TypeId) (d : Nat → Int) (h1 : 1 ≤ n) (hn : n ≤ 1000) (w : World) (h0 : Blk w b n T (I d)) :
    Calls Try.prog 113 #[.slice (some ⟨b, 0, none⟩) n n] w fun e w' => e = .returned (.bool (allB (fun i => !decide (d (i + 1) < d i)) (n - 1))) ∧ Below w.heap.size w w' := by
  have H0 := Lib.hid h0; clear h0
  go_enter Try.func113, Try.ntmps113
  go_wp2
  go_loopw [3] (fun i wr => ∃ k : Nat, k ≤ n - 1 ∧ i = .int .i64 k ∧ Blk wr b n T (I d) ∧ Below w.heap.size w wr ∧ Hid (∀ j, k ≤ j → j < n - 1 → (!decide (d (j + 1) < d j)) = true)) (fun i _ => (intOf i).toNat)
  case atStart => exact ⟨n - 1, by omega, by go_num, H0.out, Below.refl _ _, fun j hj => by omega⟩
  case round =>
    obtain ⟨k, hk, rfl, h0, hb, HO⟩ := hrel
    by_cases hk0 : 0 < k
    · have c0 : wr.cell? ⟨b, k, none⟩ = some (.int .i64 (d k)) := h0.cell (by omega)
      have c1 : wr.cell? ⟨b, k - 1, none⟩ = some (.int .i64 (d (k - 1))) := h0.cell (by omega)
      have H0' := Lib.hid h0; have HB := Lib.hid hb; clear h0 hb
      by_cases g : d k < d (k - 1)
      · have F := Lib.hid (allB_false (p := fun i => !decide (d (i + 1) < d i)) (n := n - 1) (k := k - 1) (by omega) (by simp [show k - 1 + 1 = k from by omega, g]))
        have b1 : decide (d k < d (k - 1)) = true := by simp; omega
        go_wp2
        go_quiet ((go_at_call 135; exact quiet_eq (less_any _ _ _)))
        go_wp2
        go_ret
        exact ⟨by (rw [F.out]) <;> rfl, below_drewN HB.out _⟩
      · have b1 : decide (d k < d (k - 1)) = false := by simp; omega
        have G : Hid (∀ j, k - 1 ≤ j → j < n - 1 → (!decide (d (j + 1) < d j)) = true) := fun j h1 h2 => if e : j = k - 1 then by subst e; simp [show k - 1 + 1 = k from by omega]; omega else HO.out j (by omega) h2
        go_wp2
        go_quiet ((go_at_call 135; exact quiet_eq (less_any _ _ _)))
        go_wp2
        go_roundw
        case rel => exact ⟨k - 1, by omega, by go_num, H0'.out.drewN _, below_drewN HB.out _, G⟩
        case measure => simp [intOf]; omega
    · obtain rfl : k = 0 := by omega
      have F := Lib.hid ((allB_iff (fun i => !decide (d (i + 1) < d i)) (n - 1)).2 fun j hj => HO.out j (by omega) hj)
      go_wp2
      go_ret
      exact ⟨by (rw [F.out]) <;> rfl, hb⟩

theorem die_iff (d : Nat → Int) : dieB d = (allB (fun i => faceB (d i)) 6 && allB (fun i => !decide (d (i + 1) < d i)) 5) := by
  rw [Bool.eq_iff_iff, Bool.and_eq_true, allB_iff, allB_iff]
  have e : dieB d = true ↔ Die d := by simp [dieB]
  rw [e]
  simp only [Die, okAt, faceB, Bool.and_eq_true, decide_eq_true_eq]
  constructor
  · intro h
    exact ⟨fun i hi => (h i hi).1, fun i hi => by have := (h (i + 1) (by omega)).2 (by omega); simp at this ⊢; omega⟩
  · rintro ⟨h1, h2⟩ k hk
    refine ⟨h1 k hk, fun h0 => ?_⟩
    have := h2 (k - 1) (by omega)
    rw [show k - 1 + 1 = k from by omega] at this
    simp at this; omega

theorem isDie_any (d : Nat → Int) (w : World) :
    Calls Try.prog 87 #[dieV d] w fun e w' => e = .returned (.bool (dieB d)) ∧ Below w.heap.size w w' := by
  rw [die_iff]
  cases h1 : allB (fun i => faceB (d i)) 6
  · go_enter Try.func87, Try.ntmps87
    go_wp2_with fail
    go_at_call 111
    refine (areFaces_any _ 6 53 d (by omega) _ (Blk.new _ _ _ _)).mono ?_
    rintro e w1 ⟨rfl, hb⟩
    rw [h1]
    have HB := Lib.hid hb; clear hb
    go_wp2
    go_ret
    exact ⟨rfl, ((Below.refl _ _).alloc (by omega) _).trans (HB.out.mono (by simp))⟩
  · go_enter Try.func87, Try.ntmps87
    go_wp2_with fail
    go_at_call 111
    refine (areFaces_any _ 6 53 d (by omega) _ (Blk.new _ _ _ _)).mono ?_
    rintro e w1 ⟨rfl, hb⟩
    rw [h1]
    have HB := Lib.hid hb; clear hb
    go_wp2_with fail
    go_at_call 113
    refine (sorted_any _ 6 53 d (by omega) (by omega) _ ((Blk.new _ _ _ _).below HB.out (by simp))).mono ?_
    rintro e w2 ⟨rfl, hb2⟩
    have HB2 := Lib.hid hb2; clear hb2
    go_wp2
    go_ret
    refine ⟨by simp, (((Below.refl _ _).alloc (by omega) _).trans (HB.out.mono (by simp))).trans (HB2.out.mono ?_)⟩
    have := HB.out.size; simp at this; omega
end Go.Proofs.Ytbfhfadfjgfmaaa
