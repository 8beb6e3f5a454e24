/- Contracts of functions of this program, used by the laws of this seat. No condition beyond what each theorem states. -/
import Derived.Test.YtbfhfadfjgfmaaaBeat
set_option linter.unusedVariables false
set_option linter.unusedSimpArgs false
set_option linter.unusedSectionVars false
namespace Go.Proofs.Ytbfhfadfjgfmaaa
open Go.RowKit

set_option maxHeartbeats 1000000 in
theorem l3Compare_any (a b : Nat → Int) (w : World) : Calls Try.prog 80 #[dieV a, dieV b] w fun e w' => e = .returned (.agg (row 3 (I (cmpAll a b 6)))) ∧ Below w.heap.size w w' := by
  go_enter Try.func80, Try.ntmps80
  go_wp2_with (first | (refine wpList_alloc_blk rfl 86 rfl zero3 ?_) | (refine wpList_build0_blk rfl 86 rfl built3 ?_) | (refine wpList_store_new rfl 86 _ _ rfl rfl rfl (by first | rfl | (simp; done)) sz3 (fun _ _ => rfl) ?_) | fail)
  go_loopw [6] (fun i wr => ∃ k : Nat, k ≤ 6 ∧ i = .int .i64 k ∧ Blk wr w.heap.size 6 53 (I a) ∧ Blk wr (w.heap.size + 1) 6 53 (I b) ∧ Blk wr (w.heap.size + 1 + 1) 3 86 (I fun _ => 0) ∧ Blk wr (w.heap.size + 1 + 1 + 1) 3 86 (I (cmpAll a b k)) ∧ Below w.heap.size w wr) (fun i _ => 6 - (intOf i).toNat)
  case atStart => exact ⟨0, by omega, rfl, (by (repeat (first | (with_reducible exact Blk.new _ _ _ _) | ((with_reducible refine Blk.newS ?_); (focus (first | rfl | (simp; done)))) | ((with_reducible refine Blk.setRowNew ?_); (focus (first | rfl | (simp; done)))) | ((with_reducible refine Blk.setRowOther ?_ _ _ ?_); rotate_left; (focus (first | omega | (simp; done) | (simp; omega)))) | ((with_reducible refine Blk.other ?_ _ _ ?_); rotate_left; (focus (first | omega | (simp; done) | (simp; omega)))) | (with_reducible refine Blk.alloc ?_ _) | (with_reducible refine Blk.drewN ?_ _)))), (by (repeat (first | (with_reducible exact Blk.new _ _ _ _) | ((with_reducible refine Blk.newS ?_); (focus (first | rfl | (simp; done)))) | ((with_reducible refine Blk.setRowNew ?_); (focus (first | rfl | (simp; done)))) | ((with_reducible refine Blk.setRowOther ?_ _ _ ?_); rotate_left; (focus (first | omega | (simp; done) | (simp; omega)))) | ((with_reducible refine Blk.other ?_ _ _ ?_); rotate_left; (focus (first | omega | (simp; done) | (simp; omega)))) | (with_reducible refine Blk.alloc ?_ _) | (with_reducible refine Blk.drewN ?_ _)))), (by (repeat (first | (with_reducible exact Blk.new _ _ _ _) | ((with_reducible refine Blk.newS ?_); (focus (first | rfl | (simp; done)))) | ((with_reducible refine Blk.setRowNew ?_); (focus (first | rfl | (simp; done)))) | ((with_reducible refine Blk.setRowOther ?_ _ _ ?_); rotate_left; (focus (first | omega | (simp; done) | (simp; omega)))) | ((with_reducible refine Blk.other ?_ _ _ ?_); rotate_left; (focus (first | omega | (simp; done) | (simp; omega)))) | (with_reducible refine Blk.alloc ?_ _) | (with_reducible refine Blk.drewN ?_ _)))), Blk.ext (f := I fun _ => 0) (by (repeat (first | (with_reducible exact Blk.new _ _ _ _) | ((with_reducible refine Blk.newS ?_); (focus (first | rfl | (simp; done)))) | ((with_reducible refine Blk.setRowNew ?_); (focus (first | rfl | (simp; done)))) | ((with_reducible refine Blk.setRowOther ?_ _ _ ?_); rotate_left; (focus (first | omega | (simp; done) | (simp; omega)))) | ((with_reducible refine Blk.other ?_ _ _ ?_); rotate_left; (focus (first | omega | (simp; done) | (simp; omega)))) | (with_reducible refine Blk.alloc ?_ _) | (with_reducible refine Blk.drewN ?_ _)))) (fun _ _ => rfl), (by (repeat (first | (with_reducible exact Below.refl _ _) | ((with_reducible refine below_setRow ?_ ?_ _); rotate_left; (focus (first | omega | (simp; done) | (simp; omega)))) | ((with_reducible refine Below.setCell ?_ ?_ _); rotate_left; (focus (first | omega | (simp; done) | (simp; omega)))) | ((with_reducible refine Below.alloc ?_ ?_ _); rotate_left; (focus (first | omega | (simp; done) | (simp; omega)))) | (with_reducible refine below_drewN ?_ _))))⟩
  case round =>
    obtain ⟨i, hi, rfl, hA, hB, hR, hO, hb⟩ := hrel
    by_cases hlt : i < 6
    · have hbd := Lib.hid (cmpAll_bd a b i)
      have d0 : decide ((i : Int) < 6) = true := by simp; omega
      have HA := Lib.hid hA; have HB := Lib.hid hB; have HR := Lib.hid hR; have HO := Lib.hid hO; have Hb := Lib.hid hb
      clear hA hB hR hO hb
      obtain ⟨wo, rfl⟩ : ∃ wo : World, wo = wr := ⟨_, rfl⟩
      go_wp2
      go_loopw [7] (fun v wr => ∃ k : Nat, k ≤ 6 ∧ v = .int .i64 k ∧ Blk wr w.heap.size 6 53 (I a) ∧ Blk wr (w.heap.size + 1) 6 53 (I b) ∧ Blk wr (w.heap.size + 1 + 1) 3 86 (I fun _ => 0) ∧ Blk wr (w.heap.size + 1 + 1 + 1) 3 86 (I (cmpRow (a i) b (cmpAll a b i) k)) ∧ Below w.heap.size w wr) (fun i _ => 6 - (intOf i).toNat)
      case atStart => exact ⟨0, by omega, rfl, HA.out, HB.out, HR.out, HO.out, Hb.out⟩
      case round =>
        obtain ⟨k, hk, rfl, hA, hB, hR, hO, hb⟩ := hrel
        clear HA HB HR HO Hb
        by_cases hlk : k < 6
        · obtain ⟨p, ep⟩ : ∃ p, p = place (a i) (b k) := ⟨_, rfl⟩
          obtain ⟨q1, q2⟩ := cmpRow_bd (a i) b (cmpAll a b i) (6 * i) hbd.out k p
          have ca : wr.cell? ⟨w.heap.size, i, none⟩ = some (.int .i64 (a i)) := hA.cell hlt
          have cb : wr.cell? ⟨w.heap.size + 1, k, none⟩ = some (.int .i64 (b k)) := hB.cell hlk
          have f1 := hO.free p
          have HA := Lib.hid hA; have HB := Lib.hid hB; have HR := Lib.hid hR; have HO := Lib.hid hO; have Hb := Lib.hid hb
          clear hA hB hR hO hb
          by_cases g1 : b k < a i
          · obtain rfl : p = 0 := by rw [ep]; unfold place; rw [if_pos g1]
            have EP := Lib.hid ep; clear ep
            have c1 : wr.cell? ⟨w.heap.size + 1 + 1 + 1, 0, none⟩ = some (.int .i64 (cmpRow (a i) b (cmpAll a b i) k 0)) := HO.out.cell (by omega)
            have d1 : decide (b k < a i) = true := by simp; omega
            go_wp2
            go_quiet (fail)
            go_wp2
            go_roundw
            case rel => exact ⟨k + 1, by omega, by go_num, (HA.out.drewN _).other _ _ (by (focus (first | omega | (simp; done) | (simp; omega)))), (HB.out.drewN _).other _ _ (by (focus (first | omega | (simp; done) | (simp; omega)))), (HR.out.drewN _).other _ _ (by (focus (first | omega | (simp; done) | (simp; omega)))), ((HO.out.drewN _).set (by omega) _).ext (fun j _ => by simp only [cmpRow, ← EP.out, upd, I]; split <;> rfl), (below_drewN Hb.out _).setCell (by (focus (first | omega | (simp; done) | (simp; omega)))) _⟩
            case measure => simp [intOf]; omega
          · by_cases g2 : a i = b k
            · obtain rfl : p = 1 := by rw [ep]; unfold place; rw [if_neg g1, if_pos g2]
              have EP := Lib.hid ep; clear ep
              have c1 : wr.cell? ⟨w.heap.size + 1 + 1 + 1, 1, none⟩ = some (.int .i64 (cmpRow (a i) b (cmpAll a b i) k 1)) := HO.out.cell (by omega)
              have d1 : decide (b k < a i) = false := by simp; omega
              have d2 : (a i == b k) = true := by simp [g2]
              have G2 := Lib.hid g2; clear g2
              go_wp2
              go_quiet (fail)
              go_wp2
              go_quiet (fail)
              go_wp2
              go_roundw
              case rel => exact ⟨k + 1, by omega, by go_num, (HA.out.drewN _).other _ _ (by (focus (first | omega | (simp; done) | (simp; omega)))), (HB.out.drewN _).other _ _ (by (focus (first | omega | (simp; done) | (simp; omega)))), (HR.out.drewN _).other _ _ (by (focus (first | omega | (simp; done) | (simp; omega)))), ((HO.out.drewN _).set (by omega) _).ext (fun j _ => by simp only [cmpRow, ← EP.out, upd, I]; split <;> rfl), (below_drewN Hb.out _).setCell (by (focus (first | omega | (simp; done) | (simp; omega)))) _⟩
              case measure => simp [intOf]; omega
            · obtain rfl : p = 2 := by rw [ep]; unfold place; rw [if_neg g1, if_neg g2]
              have EP := Lib.hid ep; clear ep
              have c1 : wr.cell? ⟨w.heap.size + 1 + 1 + 1, 2, none⟩ = some (.int .i64 (cmpRow (a i) b (cmpAll a b i) k 2)) := HO.out.cell (by omega)
              have d1 : decide (b k < a i) = false := by simp; omega
              have d2 : (a i == b k) = false := by simp [g2]
              go_wp2
              go_quiet (fail)
              go_wp2
              go_quiet (fail)
              go_wp2
              go_roundw
              case rel => exact ⟨k + 1, by omega, by go_num, (HA.out.drewN _).other _ _ (by (focus (first | omega | (simp; done) | (simp; omega)))), (HB.out.drewN _).other _ _ (by (focus (first | omega | (simp; done) | (simp; omega)))), (HR.out.drewN _).other _ _ (by (focus (first | omega | (simp; done) | (simp; omega)))), ((HO.out.drewN _).set (by omega) _).ext (fun j _ => by simp only [cmpRow, ← EP.out, upd, I]; split <;> rfl), (below_drewN Hb.out _).setCell (by (focus (first | omega | (simp; done) | (simp; omega)))) _⟩
              case measure => simp [intOf]; omega
        · obtain rfl : k = 6 := by omega
          have HA := Lib.hid hA; have HB := Lib.hid hB; have HR := Lib.hid hR; have HO := Lib.hid hO; have Hb := Lib.hid hb
          clear hA hB hR hO hb
          go_wp2
          go_roundw
          case rel => exact ⟨i + 1, by omega, by go_num, HA.out, HB.out, HR.out, HO.out, Hb.out⟩
          case measure => simp [intOf]; omega
    · obtain rfl : i = 6 := by omega
      have HA := Lib.hid hA; have HB := Lib.hid hB; have HR := Lib.hid hR; have HO := Lib.hid hO; have Hb := Lib.hid hb
      clear hA hB hR hO hb
      go_wp2_with (first | (refine wpList_load_blk rfl 86 _ rfl (HO.out) rfl Try.underlying86 sz3 ?_) | (refine wpList_store_blk rfl 86 _ _ rfl (HR.out) rfl rfl sz3 (fun _ _ => rfl) ?_) | fail)
      exact post_blk rfl (HR.out.setRow _) rfl Try.underlying86 sz3 rfl ⟨rfl, below_setRow Hb.out (by (focus (first | omega | (simp; done) | (simp; omega)))) _⟩
end Go.Proofs.Ytbfhfadfjgfmaaa
