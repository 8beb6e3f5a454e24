/- Contracts of functions of this program, used by the laws of this seat. No condition beyond what each theorem states. -/
import Derived.Test.YtmhlfpcndgoemaaIsDie
import Derived.Test.YtmhlfpcndgoemaaEq
set_option linter.unusedVariables false
set_option linter.unusedSimpArgs false
set_option linter.unusedSectionVars false
namespace Go.Proofs.Ytmhlfpcndgoemaa
open Go.RowKit

/-- How many of the first k faces are v. -/
def cntTo (d : Nat → Int) : Nat → Nat → Int
  | 0 => fun _ => 0
  | k + 1 => upd (cntTo d k) (d k).toNat (cntTo d k (d k).toNat + 1)
theorem cntTo_bd (d : Nat → Int) (k v : Nat) : 0 ≤ cntTo d k v ∧ cntTo d k v ≤ k := by
  induction k generalizing v with
  | zero => simp [cntTo]
  | succ k ih =>
    simp only [cntTo, upd]
    split
    · have := ih (d k).toNat; omega
    · have := ih v; omega
noncomputable def countV (d : Nat → Int) : Nat → Int := if dieB d then cntTo d 6 else fun _ => 0
theorem dieB_ok {d : Nat → Int} (h : dieB d = true) {k : Nat} (hk : k < 6) : 0 ≤ d k ∧ d k ≤ 30 := by
  simp only [dieB, decide_eq_true_eq] at h
  exact (h k hk).1

set_option maxRecDepth 100000 in
theorem sCount_any (d : Nat → Int) (w : World) : Calls Try.prog 43 #[dieV d] w fun e w' => e = .returned (.tuple #[.agg (row 31 (I (countV d))), .bool (dieB d)]) ∧ Below w.heap.size w w' := by
  unfold countV
  cases hd : dieB d
  · go_enter Try.func43, Try.ntmps43
    go_wp2_with (first | (refine wpList_alloc_blk rfl 28 rfl zero31 ?_) | (refine wpList_build0_blk rfl 28 rfl built31 ?_) | (refine wpList_store_blk rfl 28 _ _ rfl (Blk.new _ _ _ _) rfl rfl sz31 (fun _ _ => rfl) ?_) | (refine wpList_load_blk rfl 22 _ rfl ((((Blk.new _ _ _ _).alloc _).alloc _).setRowOther _ _ (by (focus (first | omega | (simp; done) | (simp; omega))))) rfl Try.underlying22 sz6 ?_) | fail)
    go_at_call 129
    refine (l2Die_any d _).mono ?_
    rintro e w1 ⟨rfl, hb1⟩
    have HB1 := Lib.hid hb1; clear hb1
    rw [hd]
    have A1 := Lib.hid (show Blk w1 w.heap.size 6 22 (I d) from Blk.below (by (repeat (first | (with_reducible exact Blk.new _ _ _ _) | ((with_reducible refine Blk.newS ?_); (focus (first | rfl | (simp; done)))) | ((with_reducible refine Blk.setRowNew ?_); (focus (first | rfl | (simp; done)))) | ((with_reducible refine Blk.setRowOther ?_ _ _ ?_); rotate_left; (focus (first | omega | (simp; done) | (simp; omega)))) | ((with_reducible refine Blk.other ?_ _ _ ?_); rotate_left; (focus (first | omega | (simp; done) | (simp; omega)))) | (with_reducible refine Blk.alloc ?_ _) | (with_reducible refine Blk.drewN ?_ _)))) HB1.out (by (focus (first | omega | (simp; done) | (simp; omega)))))
    have R1 := Lib.hid (show Blk w1 (w.heap.size + 1) 31 28 (I fun _ => 0) from Blk.below (by (repeat (first | (with_reducible exact Blk.new _ _ _ _) | ((with_reducible refine Blk.newS ?_); (focus (first | rfl | (simp; done)))) | ((with_reducible refine Blk.setRowNew ?_); (focus (first | rfl | (simp; done)))) | ((with_reducible refine Blk.setRowOther ?_ _ _ ?_); rotate_left; (focus (first | omega | (simp; done) | (simp; omega)))) | ((with_reducible refine Blk.other ?_ _ _ ?_); rotate_left; (focus (first | omega | (simp; done) | (simp; omega)))) | (with_reducible refine Blk.alloc ?_ _) | (with_reducible refine Blk.drewN ?_ _)))) HB1.out (by (focus (first | omega | (simp; done) | (simp; omega)))))
    have O1 := Lib.hid (show Blk w1 (w.heap.size + 1 + 1) 31 28 (I fun _ => 0) from Blk.below (by (repeat (first | (with_reducible exact Blk.new _ _ _ _) | ((with_reducible refine Blk.newS ?_); (focus (first | rfl | (simp; done)))) | ((with_reducible refine Blk.setRowNew ?_); (focus (first | rfl | (simp; done)))) | ((with_reducible refine Blk.setRowOther ?_ _ _ ?_); rotate_left; (focus (first | omega | (simp; done) | (simp; omega)))) | ((with_reducible refine Blk.other ?_ _ _ ?_); rotate_left; (focus (first | omega | (simp; done) | (simp; omega)))) | (with_reducible refine Blk.alloc ?_ _) | (with_reducible refine Blk.drewN ?_ _)))) HB1.out (by (focus (first | omega | (simp; done) | (simp; omega)))))
    have HB1 := Lib.hid (Below.trans (show Below w.heap.size w _ from (by (repeat (first | (with_reducible exact Below.refl _ _) | ((with_reducible refine below_setRow ?_ ?_ _); rotate_left; (focus (first | omega | (simp; done) | (simp; omega)))) | ((with_reducible refine Below.setCell ?_ ?_ _); rotate_left; (focus (first | omega | (simp; done) | (simp; omega)))) | ((with_reducible refine Below.alloc ?_ ?_ _); rotate_left; (focus (first | omega | (simp; done) | (simp; omega)))) | (with_reducible refine below_drewN ?_ _))))) (HB1.out.mono (by (focus (first | omega | (simp; done) | (simp; omega))))))
    go_wp2_with (first | (refine wpList_load_blk rfl 28 _ rfl (O1.out) rfl Try.underlying28 sz31 ?_) | (refine wpList_store_blk rfl 28 _ _ rfl (R1.out) rfl rfl sz31 (fun _ _ => rfl) ?_) | fail)
    refine post_blk_tmp rfl (R1.out.setRow _) rfl Try.underlying28 sz31 rfl ⟨rfl, below_setRow HB1.out (by (focus (first | omega | (simp; done) | (simp; omega)))) _⟩
  · have HD := Lib.hid (fun k (hk : k < 6) => dieB_ok hd hk)
    go_enter Try.func43, Try.ntmps43
    go_wp2_with (first | (refine wpList_alloc_blk rfl 28 rfl zero31 ?_) | (refine wpList_build0_blk rfl 28 rfl built31 ?_) | (refine wpList_store_blk rfl 28 _ _ rfl (Blk.new _ _ _ _) rfl rfl sz31 (fun _ _ => rfl) ?_) | (refine wpList_load_blk rfl 22 _ rfl ((((Blk.new _ _ _ _).alloc _).alloc _).setRowOther _ _ (by (focus (first | omega | (simp; done) | (simp; omega))))) rfl Try.underlying22 sz6 ?_) | fail)
    go_at_call 129
    refine (l2Die_any d _).mono ?_
    rintro e w1 ⟨rfl, hb1⟩
    have HB1 := Lib.hid hb1; clear hb1
    rw [hd]
    have A1 := Lib.hid (show Blk w1 w.heap.size 6 22 (I d) from Blk.below (by (repeat (first | (with_reducible exact Blk.new _ _ _ _) | ((with_reducible refine Blk.newS ?_); (focus (first | rfl | (simp; done)))) | ((with_reducible refine Blk.setRowNew ?_); (focus (first | rfl | (simp; done)))) | ((with_reducible refine Blk.setRowOther ?_ _ _ ?_); rotate_left; (focus (first | omega | (simp; done) | (simp; omega)))) | ((with_reducible refine Blk.other ?_ _ _ ?_); rotate_left; (focus (first | omega | (simp; done) | (simp; omega)))) | (with_reducible refine Blk.alloc ?_ _) | (with_reducible refine Blk.drewN ?_ _)))) HB1.out (by (focus (first | omega | (simp; done) | (simp; omega)))))
    have R1 := Lib.hid (show Blk w1 (w.heap.size + 1) 31 28 (I fun _ => 0) from Blk.below (by (repeat (first | (with_reducible exact Blk.new _ _ _ _) | ((with_reducible refine Blk.newS ?_); (focus (first | rfl | (simp; done)))) | ((with_reducible refine Blk.setRowNew ?_); (focus (first | rfl | (simp; done)))) | ((with_reducible refine Blk.setRowOther ?_ _ _ ?_); rotate_left; (focus (first | omega | (simp; done) | (simp; omega)))) | ((with_reducible refine Blk.other ?_ _ _ ?_); rotate_left; (focus (first | omega | (simp; done) | (simp; omega)))) | (with_reducible refine Blk.alloc ?_ _) | (with_reducible refine Blk.drewN ?_ _)))) HB1.out (by (focus (first | omega | (simp; done) | (simp; omega)))))
    have O1 := Lib.hid (show Blk w1 (w.heap.size + 1 + 1) 31 28 (I fun _ => 0) from Blk.below (by (repeat (first | (with_reducible exact Blk.new _ _ _ _) | ((with_reducible refine Blk.newS ?_); (focus (first | rfl | (simp; done)))) | ((with_reducible refine Blk.setRowNew ?_); (focus (first | rfl | (simp; done)))) | ((with_reducible refine Blk.setRowOther ?_ _ _ ?_); rotate_left; (focus (first | omega | (simp; done) | (simp; omega)))) | ((with_reducible refine Blk.other ?_ _ _ ?_); rotate_left; (focus (first | omega | (simp; done) | (simp; omega)))) | (with_reducible refine Blk.alloc ?_ _) | (with_reducible refine Blk.drewN ?_ _)))) HB1.out (by (focus (first | omega | (simp; done) | (simp; omega)))))
    have HB1 := Lib.hid (Below.trans (show Below w.heap.size w _ from (by (repeat (first | (with_reducible exact Below.refl _ _) | ((with_reducible refine below_setRow ?_ ?_ _); rotate_left; (focus (first | omega | (simp; done) | (simp; omega)))) | ((with_reducible refine Below.setCell ?_ ?_ _); rotate_left; (focus (first | omega | (simp; done) | (simp; omega)))) | ((with_reducible refine Below.alloc ?_ ?_ _); rotate_left; (focus (first | omega | (simp; done) | (simp; omega)))) | (with_reducible refine below_drewN ?_ _))))) (HB1.out.mono (by (focus (first | omega | (simp; done) | (simp; omega))))))
    clear hd
    go_wp2_with (first | (refine wpList_load_blk rfl 22 _ rfl (A1.out) rfl Try.underlying22 sz6 ?_) | fail)
    go_loopw [5] (fun i wr => ∃ k : Nat, k ≤ 6 ∧ i = .int .i64 k ∧ Blk wr w.heap.size 6 22 (I d) ∧ Blk wr (w.heap.size + 1) 31 28 (I fun _ => 0) ∧ Blk wr (w.heap.size + 1 + 1) 31 28 (I (cntTo d k)) ∧ Below w.heap.size w wr) (fun i _ => 6 - (intOf i).toNat)
    case atStart => exact ⟨0, by omega, rfl, A1.out, R1.out, O1.out, HB1.out⟩
    case round =>
      obtain ⟨k, hk, rfl, hA, hR, hO, hb⟩ := hrel
      by_cases hlt : k < 6
      · obtain ⟨g1, g2⟩ := HD.out k hlt
        have c0 : wr.cell? ⟨w.heap.size, k, none⟩ = some (.int .i64 (d k)) := hA.cell hlt
        have c1 : wr.cell? ⟨w.heap.size + 1 + 1, (d k).toNat, none⟩ = some (.int .i64 (cntTo d k (d k).toNat)) := hO.cell (by omega)
        have f1 := hO.free (d k).toNat
        have hix_d : ∀ w, (Instr.index 22 (.agg (row 6 (I d))) (.int .i64 (k : Nat))).run Try.prog w = .ok (.int .i64 (d k)) w := index_row (f := I d) Try.underlying22 Try.sizeOf3 Try.isAgg3 hlt
        obtain ⟨q1, q2⟩ := cntTo_bd d k (d k).toNat
        have HA := Lib.hid hA; have HR := Lib.hid hR; have HO := Lib.hid hO; have HB := Lib.hid hb
        clear hA hR hO hb
        go_wp2
        go_roundw
        case rel => exact ⟨k + 1, by omega, by go_num, HA.out.other _ _ (by (focus (first | omega | (simp; done) | (simp; omega)))), HR.out.other _ _ (by (focus (first | omega | (simp; done) | (simp; omega)))), (HO.out.set (by omega) _).ext (fun i _ => by simp only [cntTo, upd, I]; split <;> rfl), HB.out.setCell (by (focus (first | omega | (simp; done) | (simp; omega)))) _⟩
        case measure => simp [intOf]; omega
      · obtain rfl : k = 6 := by omega
        have HA := Lib.hid hA; have HR := Lib.hid hR; have HO := Lib.hid hO; have HB := Lib.hid hb
        clear hA hR hO hb
        go_wp2_with (first | (refine wpList_load_blk rfl 28 _ rfl (HO.out) rfl Try.underlying28 sz31 ?_) | (refine wpList_store_blk rfl 28 _ _ rfl (HR.out) rfl rfl sz31 (fun _ _ => rfl) ?_) | fail)
        exact post_blk_tmp rfl (HR.out.setRow _) rfl Try.underlying28 sz31 rfl ⟨rfl, below_setRow HB.out (by (focus (first | omega | (simp; done) | (simp; omega)))) _⟩

set_option maxRecDepth 100000 in
theorem iCount_any (d : Nat → Int) (w : World) : Calls Try.prog 44 #[dieV d] w fun e w' => e = .returned (.tuple #[.agg (row 31 (I (countV d))), .bool (dieB d)]) ∧ Below w.heap.size w w' := by
  unfold countV
  cases hd : dieB d
  · go_enter Try.func44, Try.ntmps44
    go_wp2_with (first | (refine wpList_alloc_blk rfl 28 rfl zero31 ?_) | (refine wpList_load_blk rfl 22 _ rfl (((Blk.new _ _ _ _).alloc _).alloc _) rfl Try.underlying22 sz6 ?_) | fail)
    go_at_call 40
    refine (isDie_any d _).mono ?_
    rintro e w1 ⟨rfl, hb1⟩
    have HB1 := Lib.hid hb1; clear hb1
    rw [hd]
    have A1 := Lib.hid (show Blk w1 w.heap.size 6 22 (I d) from Blk.below (by (repeat (first | (with_reducible exact Blk.new _ _ _ _) | ((with_reducible refine Blk.newS ?_); (focus (first | rfl | (simp; done)))) | ((with_reducible refine Blk.setRowNew ?_); (focus (first | rfl | (simp; done)))) | ((with_reducible refine Blk.setRowOther ?_ _ _ ?_); rotate_left; (focus (first | omega | (simp; done) | (simp; omega)))) | ((with_reducible refine Blk.other ?_ _ _ ?_); rotate_left; (focus (first | omega | (simp; done) | (simp; omega)))) | (with_reducible refine Blk.alloc ?_ _) | (with_reducible refine Blk.drewN ?_ _)))) HB1.out (by (focus (first | omega | (simp; done) | (simp; omega)))))
    have R1 := Lib.hid (show Blk w1 (w.heap.size + 1) 31 28 (I fun _ => 0) from Blk.below (by (repeat (first | (with_reducible exact Blk.new _ _ _ _) | ((with_reducible refine Blk.newS ?_); (focus (first | rfl | (simp; done)))) | ((with_reducible refine Blk.setRowNew ?_); (focus (first | rfl | (simp; done)))) | ((with_reducible refine Blk.setRowOther ?_ _ _ ?_); rotate_left; (focus (first | omega | (simp; done) | (simp; omega)))) | ((with_reducible refine Blk.other ?_ _ _ ?_); rotate_left; (focus (first | omega | (simp; done) | (simp; omega)))) | (with_reducible refine Blk.alloc ?_ _) | (with_reducible refine Blk.drewN ?_ _)))) HB1.out (by (focus (first | omega | (simp; done) | (simp; omega)))))
    have O1 := Lib.hid (show Blk w1 (w.heap.size + 1 + 1) 31 28 (I fun _ => 0) from Blk.below (by (repeat (first | (with_reducible exact Blk.new _ _ _ _) | ((with_reducible refine Blk.newS ?_); (focus (first | rfl | (simp; done)))) | ((with_reducible refine Blk.setRowNew ?_); (focus (first | rfl | (simp; done)))) | ((with_reducible refine Blk.setRowOther ?_ _ _ ?_); rotate_left; (focus (first | omega | (simp; done) | (simp; omega)))) | ((with_reducible refine Blk.other ?_ _ _ ?_); rotate_left; (focus (first | omega | (simp; done) | (simp; omega)))) | (with_reducible refine Blk.alloc ?_ _) | (with_reducible refine Blk.drewN ?_ _)))) HB1.out (by (focus (first | omega | (simp; done) | (simp; omega)))))
    have HB1 := Lib.hid (Below.trans (show Below w.heap.size w _ from (by (repeat (first | (with_reducible exact Below.refl _ _) | ((with_reducible refine below_setRow ?_ ?_ _); rotate_left; (focus (first | omega | (simp; done) | (simp; omega)))) | ((with_reducible refine Below.setCell ?_ ?_ _); rotate_left; (focus (first | omega | (simp; done) | (simp; omega)))) | ((with_reducible refine Below.alloc ?_ ?_ _); rotate_left; (focus (first | omega | (simp; done) | (simp; omega)))) | (with_reducible refine below_drewN ?_ _))))) (HB1.out.mono (by (focus (first | omega | (simp; done) | (simp; omega))))))
    go_wp2_with (first | (refine wpList_load_blk rfl 28 _ rfl (O1.out) rfl Try.underlying28 sz31 ?_) | (refine wpList_store_blk rfl 28 _ _ rfl (R1.out) rfl rfl sz31 (fun _ _ => rfl) ?_) | fail)
    refine post_blk_tmp rfl (R1.out.setRow _) rfl Try.underlying28 sz31 rfl ⟨rfl, below_setRow HB1.out (by (focus (first | omega | (simp; done) | (simp; omega)))) _⟩
  · have HD := Lib.hid (fun k (hk : k < 6) => dieB_ok hd hk)
    go_enter Try.func44, Try.ntmps44
    go_wp2_with (first | (refine wpList_alloc_blk rfl 28 rfl zero31 ?_) | (refine wpList_load_blk rfl 22 _ rfl (((Blk.new _ _ _ _).alloc _).alloc _) rfl Try.underlying22 sz6 ?_) | fail)
    go_at_call 40
    refine (isDie_any d _).mono ?_
    rintro e w1 ⟨rfl, hb1⟩
    have HB1 := Lib.hid hb1; clear hb1
    rw [hd]
    have A1 := Lib.hid (show Blk w1 w.heap.size 6 22 (I d) from Blk.below (by (repeat (first | (with_reducible exact Blk.new _ _ _ _) | ((with_reducible refine Blk.newS ?_); (focus (first | rfl | (simp; done)))) | ((with_reducible refine Blk.setRowNew ?_); (focus (first | rfl | (simp; done)))) | ((with_reducible refine Blk.setRowOther ?_ _ _ ?_); rotate_left; (focus (first | omega | (simp; done) | (simp; omega)))) | ((with_reducible refine Blk.other ?_ _ _ ?_); rotate_left; (focus (first | omega | (simp; done) | (simp; omega)))) | (with_reducible refine Blk.alloc ?_ _) | (with_reducible refine Blk.drewN ?_ _)))) HB1.out (by (focus (first | omega | (simp; done) | (simp; omega)))))
    have R1 := Lib.hid (show Blk w1 (w.heap.size + 1) 31 28 (I fun _ => 0) from Blk.below (by (repeat (first | (with_reducible exact Blk.new _ _ _ _) | ((with_reducible refine Blk.newS ?_); (focus (first | rfl | (simp; done)))) | ((with_reducible refine Blk.setRowNew ?_); (focus (first | rfl | (simp; done)))) | ((with_reducible refine Blk.setRowOther ?_ _ _ ?_); rotate_left; (focus (first | omega | (simp; done) | (simp; omega)))) | ((with_reducible refine Blk.other ?_ _ _ ?_); rotate_left; (focus (first | omega | (simp; done) | (simp; omega)))) | (with_reducible refine Blk.alloc ?_ _) | (with_reducible refine Blk.drewN ?_ _)))) HB1.out (by (focus (first | omega | (simp; done) | (simp; omega)))))
    have O1 := Lib.hid (show Blk w1 (w.heap.size + 1 + 1) 31 28 (I fun _ => 0) from Blk.below (by (repeat (first | (with_reducible exact Blk.new _ _ _ _) | ((with_reducible refine Blk.newS ?_); (focus (first | rfl | (simp; done)))) | ((with_reducible refine Blk.setRowNew ?_); (focus (first | rfl | (simp; done)))) | ((with_reducible refine Blk.setRowOther ?_ _ _ ?_); rotate_left; (focus (first | omega | (simp; done) | (simp; omega)))) | ((with_reducible refine Blk.other ?_ _ _ ?_); rotate_left; (focus (first | omega | (simp; done) | (simp; omega)))) | (with_reducible refine Blk.alloc ?_ _) | (with_reducible refine Blk.drewN ?_ _)))) HB1.out (by (focus (first | omega | (simp; done) | (simp; omega)))))
    have HB1 := Lib.hid (Below.trans (show Below w.heap.size w _ from (by (repeat (first | (with_reducible exact Below.refl _ _) | ((with_reducible refine below_setRow ?_ ?_ _); rotate_left; (focus (first | omega | (simp; done) | (simp; omega)))) | ((with_reducible refine Below.setCell ?_ ?_ _); rotate_left; (focus (first | omega | (simp; done) | (simp; omega)))) | ((with_reducible refine Below.alloc ?_ ?_ _); rotate_left; (focus (first | omega | (simp; done) | (simp; omega)))) | (with_reducible refine below_drewN ?_ _))))) (HB1.out.mono (by (focus (first | omega | (simp; done) | (simp; omega))))))
    clear hd
    go_wp2_with (first | (refine wpList_load_blk rfl 22 _ rfl (A1.out) rfl Try.underlying22 sz6 ?_) | fail)
    go_loopw [12] (fun i wr => ∃ k : Nat, k ≤ 6 ∧ i = .int .i64 k ∧ Blk wr w.heap.size 6 22 (I d) ∧ Blk wr (w.heap.size + 1) 31 28 (I fun _ => 0) ∧ Blk wr (w.heap.size + 1 + 1) 31 28 (I (cntTo d k)) ∧ Below w.heap.size w wr) (fun i _ => 6 - (intOf i).toNat)
    case atStart => exact ⟨0, by omega, rfl, A1.out, R1.out, O1.out, HB1.out⟩
    case round =>
      obtain ⟨k, hk, rfl, hA, hR, hO, hb⟩ := hrel
      by_cases hlt : k < 6
      · obtain ⟨g1, g2⟩ := HD.out k hlt
        have c0 : wr.cell? ⟨w.heap.size, k, none⟩ = some (.int .i64 (d k)) := hA.cell hlt
        have c1 : wr.cell? ⟨w.heap.size + 1 + 1, (d k).toNat, none⟩ = some (.int .i64 (cntTo d k (d k).toNat)) := hO.cell (by omega)
        have f1 := hO.free (d k).toNat
        have hix_d : ∀ w, (Instr.index 22 (.agg (row 6 (I d))) (.int .i64 (k : Nat))).run Try.prog w = .ok (.int .i64 (d k)) w := index_row (f := I d) Try.underlying22 Try.sizeOf3 Try.isAgg3 hlt
        obtain ⟨q1, q2⟩ := cntTo_bd d k (d k).toNat
        have HA := Lib.hid hA; have HR := Lib.hid hR; have HO := Lib.hid hO; have HB := Lib.hid hb
        clear hA hR hO hb
        go_wp2
        go_roundw
        case rel => exact ⟨k + 1, by omega, by go_num, HA.out.other _ _ (by (focus (first | omega | (simp; done) | (simp; omega)))), HR.out.other _ _ (by (focus (first | omega | (simp; done) | (simp; omega)))), (HO.out.set (by omega) _).ext (fun i _ => by simp only [cntTo, upd, I]; split <;> rfl), HB.out.setCell (by (focus (first | omega | (simp; done) | (simp; omega)))) _⟩
        case measure => simp [intOf]; omega
      · obtain rfl : k = 6 := by omega
        have HA := Lib.hid hA; have HR := Lib.hid hR; have HO := Lib.hid hO; have HB := Lib.hid hb
        clear hA hR hO hb
        go_wp2_with (first | (refine wpList_load_blk rfl 28 _ rfl (HO.out) rfl Try.underlying28 sz31 ?_) | (refine wpList_store_blk rfl 28 _ _ rfl (HR.out) rfl rfl sz31 (fun _ _ => rfl) ?_) | fail)
        exact post_blk_tmp rfl (HR.out.setRow _) rfl Try.underlying28 sz31 rfl ⟨rfl, below_setRow HB.out (by (focus (first | omega | (simp; done) | (simp; omega)))) _⟩

end Go.Proofs.Ytmhlfpcndgoemaa
