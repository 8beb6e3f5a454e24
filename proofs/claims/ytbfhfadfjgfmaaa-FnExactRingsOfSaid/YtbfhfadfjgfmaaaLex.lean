/- Contracts of functions of this program, used by the laws of this seat. No condition beyond what each theorem states. -/
import Derived.Test.YtbfhfadfjgfmaaaBeats
set_option linter.unusedVariables false
set_option linter.unusedSimpArgs false
set_option linter.unusedSectionVars false
namespace Go.Proofs.Ytbfhfadfjgfmaaa
open Go.RowKit

/-- The first difference of two rows of ints, from place k on, n places. -/
def lexI (a b : Nat → Int) : Nat → Nat → Int
  | 0, _ => 0
  | n + 1, k => if cmpI (a k) (b k) = 0 then lexI a b n (k + 1) else cmpI (a k) (b k)
theorem cmpI_zero (x y : Int) : cmpI x y = 0 ↔ x = y := by
  unfold cmpI; split
  · constructor <;> intro h <;> omega
  · split
    · constructor <;> intro h <;> omega
    · constructor <;> intro h <;> omega
theorem cmpI_neg (x y : Int) : cmpI x y < 0 ↔ x < y := by
  unfold cmpI; split
  · constructor <;> intro h <;> omega
  · split
    · constructor <;> intro h <;> omega
    · constructor <;> intro h <;> omega
theorem cmpI_bd (x y : Int) : -1 ≤ cmpI x y ∧ cmpI x y ≤ 1 := by unfold cmpI; split <;> (try split) <;> omega
theorem lexI_step (a b : Nat → Int) {n k : Nat} (hk : k < n) (h : lexI a b n 0 = lexI a b (n - k) k) (e : a k = b k) : lexI a b n 0 = lexI a b (n - (k + 1)) (k + 1) := by
  rw [h, show n - k = (n - (k + 1)) + 1 by omega, lexI, if_pos ((cmpI_zero _ _).2 e)]
theorem lexI_stop (a b : Nat → Int) {n k : Nat} (hk : k < n) (h : lexI a b n 0 = lexI a b (n - k) k) (e : a k ≠ b k) : lexI a b n 0 = cmpI (a k) (b k) := by
  rw [h, show n - k = (n - (k + 1)) + 1 by omega, lexI, if_neg (fun h => e ((cmpI_zero _ _).1 h))]

theorem sliceCompare_any (b1 b2 n : Nat) (T1 T2 : TypeId) (a b : Nat → Int) (hn : n ≤ 1000) (w : World) (h1 : Blk w b1 n T1 (I a)) (h2 : Blk w b2 n T2 (I b)) :
    Calls Try.prog 76 #[.slice (some ⟨b1, 0, none⟩) n n, .slice (some ⟨b2, 0, none⟩) n n] w fun e w' => e = .returned (.int .i64 (lexI a b n 0)) ∧ w = w' := by
  have H1 := Lib.hid h1; have H2 := Lib.hid h2; clear h1 h2
  go_enter Try.func76, Try.ntmps76
  go_wp2
  go_loop [11] (fun i => ∃ k : Nat, k ≤ n ∧ i = .int .i64 k ∧ Hid (lexI a b n 0 = lexI a b (n - k) k)) (fun i => n - (intOf i).toNat)
  case atStart => exact ⟨0, by omega, rfl, rfl⟩
  case round =>
    obtain ⟨k, hk, rfl, HO⟩ := hrel
    by_cases hlt : k < n
    · have c0 : w.cell? ⟨b1, k, none⟩ = some (.int .i64 (a k)) := H1.out.cell hlt
      have c1 : w.cell? ⟨b2, k, none⟩ = some (.int .i64 (b k)) := H2.out.cell hlt
      by_cases g : a k = b k
      · have G := Lib.hid (lexI_step a b hlt HO.out g)
        have Z := Lib.hid ((cmpI_zero (a k) (b k)).2 g)
        clear g
        go_wp2_with fail
        go_at_call 75
        refine (compare_any _ _ _).mono ?_
        rintro e w' ⟨rfl, rfl⟩
        rw [Z.out]
        go_wp2
        go_round
        case rel => exact ⟨k + 1, by omega, by go_num, G⟩
        case measure => simp [intOf]; omega
      · have G := Lib.hid (lexI_stop a b hlt HO.out g)
        have Z : (cmpI (a k) (b k) != 0) = true := by rw [bne_iff_ne]; exact fun h => g ((cmpI_zero _ _).1 h)
        clear g
        go_wp2_with fail
        go_at_call 75
        refine (compare_any _ _ _).mono ?_
        rintro e w' ⟨rfl, rfl⟩
        generalize cmpI (a k) (b k) = c at *
        go_wp2
        go_ret
        exact ⟨by (rw [G.out]) <;> rfl, rfl⟩
    · obtain rfl : k = n := by omega
      have G := Lib.hid (show lexI a b k 0 = 0 by rw [HO.out, Nat.sub_self]; rfl)
      go_wp2
      go_ret
      exact ⟨by (rw [G.out]) <;> rfl, rfl⟩

theorem compareDice_any (a b : Nat → Int) (w : World) : Calls Try.prog 45 #[dieV a, dieV b] w fun e w' => e = .returned (.int .i64 (lexI a b 6 0)) ∧ Below w.heap.size w w' := by
  go_enter Try.func45, Try.ntmps45
  go_wp2
  go_quiet ((go_at_call 76; exact quiet_eq (sliceCompare_any _ _ 6 _ _ a b (by omega) _ (((Blk.new _ _ 53 _).alloc _).drewN _) ((Blk.newS (by simp)).drewN _))))
  go_wp2
  go_ret
  exact ⟨rfl, below_drewN (by (repeat (first | (with_reducible exact Below.refl _ _) | ((with_reducible refine below_setRow ?_ ?_ _); rotate_left; (focus (first | omega | (simp; done) | (simp; omega)))) | ((with_reducible refine Below.setCell ?_ ?_ _); rotate_left; (focus (first | omega | (simp; done) | (simp; omega)))) | ((with_reducible refine Below.alloc ?_ ?_ _); rotate_left; (focus (first | omega | (simp; done) | (simp; omega)))) | (with_reducible refine below_drewN ?_ _)))) _⟩

theorem l2Before_any (a b : Nat → Int) (w : World) : Calls Try.prog 39 #[dieV a, dieV b] w fun e w' => e = .returned (.bool (decide (lexI a b 6 0 < 0))) ∧ Below w.heap.size w w' := by
  go_enter Try.func39, Try.ntmps39
  go_wp2
  go_loopw [5] (fun i wr => ∃ k : Nat, k ≤ 6 ∧ i = .int .i64 k ∧ Blk wr w.heap.size 6 53 (I a) ∧ Blk wr (w.heap.size + 1) 6 53 (I b) ∧ Below w.heap.size w wr ∧ Hid (lexI a b 6 0 = lexI a b (6 - k) k)) (fun i _ => 6 - (intOf i).toNat)
  case atStart => exact ⟨0, by omega, rfl, (by (repeat (first | (with_reducible exact Blk.new _ _ _ _) | ((with_reducible refine Blk.newS ?_); (focus (first | rfl | (simp; done)))) | ((with_reducible refine Blk.setRowNew ?_); (focus (first | rfl | (simp; done)))) | ((with_reducible refine Blk.setRowOther ?_ _ _ ?_); rotate_left; (focus (first | omega | (simp; done) | (simp; omega)))) | ((with_reducible refine Blk.other ?_ _ _ ?_); rotate_left; (focus (first | omega | (simp; done) | (simp; omega)))) | (with_reducible refine Blk.alloc ?_ _) | (with_reducible refine Blk.drewN ?_ _)))), (by (repeat (first | (with_reducible exact Blk.new _ _ _ _) | ((with_reducible refine Blk.newS ?_); (focus (first | rfl | (simp; done)))) | ((with_reducible refine Blk.setRowNew ?_); (focus (first | rfl | (simp; done)))) | ((with_reducible refine Blk.setRowOther ?_ _ _ ?_); rotate_left; (focus (first | omega | (simp; done) | (simp; omega)))) | ((with_reducible refine Blk.other ?_ _ _ ?_); rotate_left; (focus (first | omega | (simp; done) | (simp; omega)))) | (with_reducible refine Blk.alloc ?_ _) | (with_reducible refine Blk.drewN ?_ _)))), (by (repeat (first | (with_reducible exact Below.refl _ _) | ((with_reducible refine below_setRow ?_ ?_ _); rotate_left; (focus (first | omega | (simp; done) | (simp; omega)))) | ((with_reducible refine Below.setCell ?_ ?_ _); rotate_left; (focus (first | omega | (simp; done) | (simp; omega)))) | ((with_reducible refine Below.alloc ?_ ?_ _); rotate_left; (focus (first | omega | (simp; done) | (simp; omega)))) | (with_reducible refine below_drewN ?_ _)))), rfl⟩
  case round =>
    obtain ⟨k, hk, rfl, hA, hB, hb, HO⟩ := hrel
    by_cases hlt : k < 6
    · have c0 : wr.cell? ⟨w.heap.size, k, none⟩ = some (.int .i64 (a k)) := hA.cell hlt
      have c1 : wr.cell? ⟨w.heap.size + 1, k, none⟩ = some (.int .i64 (b k)) := hB.cell hlt
      have HA := Lib.hid hA; have HB := Lib.hid hB; have Hb := Lib.hid hb
      clear hA hB hb
      by_cases g : a k = b k
      · have G := Lib.hid (lexI_step a b hlt HO.out g)
        have d1 : (a k != b k) = false := by simp [g]
        clear g
        go_wp2
        go_quiet (fail)
        go_wp2
        go_roundw
        case rel => exact ⟨k + 1, by omega, by go_num, HA.out.drewN _, HB.out.drewN _, below_drewN Hb.out _, G⟩
        case measure => simp [intOf]; omega
      · have G := Lib.hid (show decide (lexI a b 6 0 < 0) = decide (a k < b k) by rw [lexI_stop a b hlt HO.out g]; simp [cmpI_neg])
        have d1 : (a k != b k) = true := by simp [g]
        clear g
        go_wp2
        go_quiet (fail)
        go_wp2
        go_quiet (fail)
        go_wp2
        go_ret
        exact ⟨by (rw [G.out]) <;> rfl, by first | exact below_drewN Hb.out _ | exact below_drewN (below_drewN Hb.out _) _⟩
    · obtain rfl : k = 6 := by omega
      have G := Lib.hid (show decide (lexI a b 6 0 < 0) = false by rw [HO.out]; rfl)
      go_wp2
      go_ret
      exact ⟨by (rw [G.out]) <;> rfl, hb⟩
end Go.Proofs.Ytbfhfadfjgfmaaa
