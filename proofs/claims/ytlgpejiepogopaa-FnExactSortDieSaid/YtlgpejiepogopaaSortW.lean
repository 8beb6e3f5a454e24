/- SortDie, both sides. -/
import Derived.Test.YtlgpejiepogopaaSortD
import Derived.Test.YtlgpejiepogopaaDice
set_option linter.unusedVariables false
set_option linter.unusedSimpArgs false
set_option linter.unusedSectionVars false
namespace Go.Proofs.Ytlgpejiepogopaa
open Go.RowKit
theorem I_swap (f : Nat → Int) (k : Nat) (a b : Int) : upd (upd (I f) k (.int .i64 a)) (k + 1) (.int .i64 b) = I (upd (upd f k a) (k + 1) b) := by rw [I_upd, I_upd]
set_option maxHeartbeats 1000000 in
theorem l2Sorted_any (d : Nat → Int) (w : World) : Calls Try.prog 70 #[dieV d] w fun e w' => e = .returned (dieV (bubF d 6)) ∧ Below w.heap.size w w' := by
  go_enter Try.func70, Try.ntmps70
  go_wp2_with (first | (refine wpList_alloc_blk rfl 22 rfl zero6 ?_) | fail)
  go_loopw [3] (fun i wr => ∃ m : Nat, m ≤ 6 ∧ i = .int .i64 (m : Int) ∧ Blk wr w.heap.size 6 22 (I (bubF d m)) ∧ Blk wr (w.heap.size + 1) 6 22 (I fun _ => 0) ∧ Below w.heap.size w wr) (fun i _ => 6 - (intOf i).toNat)
  case atStart => exact ⟨0, by omega, rfl, (Blk.new _ _ _ _).alloc _, Blk.newS (by simp), ((Below.refl _ _).alloc (by omega) _).alloc (by simp) _⟩
  case round =>
    obtain ⟨m, hm, rfl, hA, hR, hb⟩ := hrel
    have A1 := Lib.hid hA; have R1 := Lib.hid hR; have HB1 := Lib.hid hb
    clear hA hR hb
    by_cases hlt : m < 6
    · have d0 : decide ((m : Int) < 6) = true := by simp; omega
      go_wp2
      go_loopw [4] (fun i wr => ∃ k : Nat, k ≤ 5 ∧ i = .int .i64 (k : Int) ∧ Blk wr w.heap.size 6 22 (I (passF (bubF d m) k)) ∧ Blk wr (w.heap.size + 1) 6 22 (I fun _ => 0) ∧ Below w.heap.size w wr) (fun i _ => 5 - (intOf i).toNat)
      case atStart => exact ⟨0, by omega, rfl, A1.out, R1.out, HB1.out⟩
      case round =>
        obtain ⟨k, hk, rfl, hA, hR, hb⟩ := hrel
        clear A1 R1 HB1
        have A2 := Lib.hid hA; have R2 := Lib.hid hR; have HB2 := Lib.hid hb
        clear hA hR hb
        obtain ⟨f, hf⟩ : ∃ f, f = passF (bubF d m) k := ⟨_, rfl⟩
        rw [← hf] at A2
        have HF := Lib.hid (show passF (bubF d m) (k + 1) = swapF f k by rw [hf]; rfl)
        have HK := Lib.hid hf
        clear hf
        by_cases hlk : k < 5
        · have d1 : decide ((k : Int) < 5) = true := by simp; omega
          have c1 : wr.cell? ⟨w.heap.size, k, none⟩ = some (.int .i64 (f k)) := A2.out.cell (by omega)
          have c2 : wr.cell? ⟨w.heap.size, k + 1, none⟩ = some (.int .i64 (f (k + 1))) := A2.out.cell (by omega)
          have f1 : wr.frozen? ⟨w.heap.size, k, none⟩ = false := A2.out.free _
          have f2 : wr.frozen? ⟨w.heap.size, k + 1, none⟩ = false := A2.out.free _
          by_cases hc : f (k + 1) < f k
          · have HS := Lib.hid (show swapF f k = upd (upd f k (f (k + 1))) (k + 1) (f k) by unfold swapF; rw [if_pos hc])
            have d2 : decide (f (k + 1) < f k) = true := by simp; omega
            clear hc
            go_wp2
            go_quiet (fail)
            go_wp2
            go_roundw
            case rel => exact ⟨k + 1, by omega, by go_num, by rw [HF.out, HS.out, ← I_swap]; exact ((A2.out.drewN _).set (by omega) _).set (by omega) _, ((R2.out.drewN _).other _ _ (by simp)).other _ _ (by simp), ((below_drewN HB2.out _).setCell (Nat.le_refl _) _).setCell (Nat.le_refl _) _⟩
            case measure => simp [intOf]; omega
          · have HS := Lib.hid (show swapF f k = f by unfold swapF; rw [if_neg hc])
            have d2 : decide (f (k + 1) < f k) = false := by simp; omega
            clear hc
            go_wp2
            go_quiet (fail)
            go_wp2
            go_roundw
            case rel => exact ⟨k + 1, by omega, by go_num, by rw [HF.out, HS.out]; exact A2.out.drewN _, R2.out.drewN _, below_drewN HB2.out _⟩
            case measure => simp [intOf]; omega
        · have d1 : decide ((k : Int) < 5) = false := by simp; omega
          obtain rfl : k = 5 := by omega
          rw [HK.out] at A2
          go_wp2
          go_roundw
          case rel => exact ⟨m + 1, by omega, by go_num, A2.out, R2.out, HB2.out⟩
          case measure => simp [intOf]; omega
    · have d0 : decide ((m : Int) < 6) = false := by simp; omega
      obtain rfl : m = 6 := by omega
      go_wp2_with (first | ((with_reducible apply wpList_load_blk); (case hw => rfl); (case ho => rfl); (case hx => rfl); (case hb => with_reducible exact A1.out); (case hu => exact Try.underlying22); (case hi => exact sz6)) | (refine wpList_store_blk rfl 22 _ _ rfl (R1.out) rfl rfl sz6 (fun _ _ => rfl) ?_) | fail)
      exact post_blk rfl (R1.out.setRow _) rfl Try.underlying22 sz6 rfl ⟨rfl, below_setRow HB1.out (by (focus (first | omega | (simp; done) | (simp; omega)))) _⟩
noncomputable def sortV (d : Nat → Int) : Nat → Int := if allB (fun i => faceB (d i)) 6 then bubF d 6 else fun _ => 0
set_option maxHeartbeats 1000000 in
theorem sSortDie_any (d : Nat → Int) (w : World) : Calls Try.prog 19 #[dieV d] w fun e w' => e = .returned (.tuple #[dieV (sortV d), .bool (allB (fun i => faceB (d i)) 6)]) ∧ Below w.heap.size w w' := by
  have HD := Lib.hid (sorted_die d)
  go_enter Try.func19, Try.ntmps19
  go_wp2_with (first | (refine wpList_alloc_blk rfl 22 rfl zero6 ?_) | (refine wpList_load_blk rfl 22 _ rfl (((Blk.new _ _ _ _).alloc _)) rfl Try.underlying22 sz6 ?_) | fail)
  generalize hW : (w.alloc (.cells (row 6 (I d)) 22)).alloc (.cells (row 6 (I fun _ => 0)) 22) = W0
  have R0 := Lib.hid (show Blk W0 (w.heap.size + 1) 6 22 (I fun _ => 0) from hW ▸ Blk.newS (by simp))
  have HB0 := Lib.hid (show Below w.heap.size w W0 from hW ▸ ((Below.refl _ _).alloc (Nat.le_refl _) _).alloc (by simp) _)
  clear hW
  go_at_call 70
  refine (l2Sorted_any d _).mono ?_
  rintro e w1 ⟨rfl, hb⟩
  have R1 := Lib.hid (R0.out.below hb R0.out.lt)
  have HB1 := Lib.hid (HB0.out.trans (hb.mono HB0.out.size))
  clear hb
  obtain ⟨q, hq⟩ : ∃ q, q = bubF d 6 := ⟨_, rfl⟩
  have HQ := Lib.hid hq
  rw [← hq]
  rw [← hq] at HD
  clear hq
  go_wp2_with (first | (refine wpList_alloc_blk rfl 22 rfl zero6 ?_) | (((with_reducible apply wpList_store_new); (case hw => rfl); (case ho => rfl); (case hx => rfl); (case hy => rfl); (case hg => rfl); (case hi => exact sz6); (case h1 => exact fun _ _ => rfl))) | ((with_reducible apply wpList_load_blk); (case hw => rfl); (case ho => rfl); (case hx => rfl); (case hb => with_reducible exact (Blk.new _ _ _ _)); (case hu => exact Try.underlying22); (case hi => exact sz6)) | fail)
  have Q2 := Lib.hid (show Blk (w1.alloc (.cells (row 6 (I q)) 22)) w1.heap.size 6 22 (I q) from Blk.new _ _ _ _)
  have R2 := Lib.hid (R1.out.alloc (.cells (row 6 (I q)) 22))
  have HB2 := Lib.hid (HB1.out.alloc HB1.out.size (.cells (row 6 (I q)) 22))
  go_at_call 71
  refine (l2Die_any q _).mono ?_
  rintro e w3 ⟨rfl, hb⟩
  have Q3 := Lib.hid (Q2.out.below hb Q2.out.lt)
  have R3 := Lib.hid (R2.out.below hb R2.out.lt)
  have HB3 := Lib.hid (HB2.out.trans (hb.mono HB2.out.size))
  clear hb
  rw [HD.out]
  cases g : allB (fun i => faceB (d i)) 6
  · have HV := Lib.hid (show sortV d = fun _ => 0 by unfold sortV; rw [g]; rfl)
    go_wp2_with (first | (refine wpList_build0_blk rfl 22 rfl built6 ?_) | (refine wpList_store_blk rfl 22 _ _ rfl (R3.out) rfl rfl sz6 (fun _ _ => rfl) ?_) | fail)
    exact post_blk_tmp rfl (R3.out.setRow _) rfl Try.underlying22 sz6 rfl ⟨by rw [HV.out, g]; rfl, below_setRow HB3.out (by (focus (first | omega | (simp; done) | (simp; omega)))) _⟩
  · have HV := Lib.hid (show sortV d = q by unfold sortV; rw [g]; exact (if_pos rfl).trans HQ.out.symm)
    go_wp2_with (first | ((with_reducible apply wpList_load_blk); (case hw => rfl); (case ho => rfl); (case hx => rfl); (case hb => with_reducible exact Q3.out); (case hu => exact Try.underlying22); (case hi => exact sz6)) | (refine wpList_store_blk rfl 22 _ _ rfl (R3.out) rfl rfl sz6 (fun _ _ => rfl) ?_) | fail)
    exact post_blk_tmp rfl (R3.out.setRow _) rfl Try.underlying22 sz6 rfl ⟨by rw [HV.out, g]; rfl, below_setRow HB3.out (by (focus (first | omega | (simp; done) | (simp; omega)))) _⟩
set_option maxHeartbeats 1000000 in
theorem iSortDie_any (d : Nat → Int) (w : World) : Calls Try.prog 21 #[dieV d] w fun e w' => e = .returned (.tuple #[dieV (sortV d), .bool (allB (fun i => faceB (d i)) 6)]) ∧ Below w.heap.size w w' := by
  go_enter Try.func21, Try.ntmps21
  go_wp2_with (first | (refine wpList_alloc_blk rfl 22 rfl zero6 ?_) | fail)
  generalize hW : (w.alloc (.cells (row 6 (I d)) 22)).alloc (.cells (row 6 (I fun _ => 0)) 22) = W0
  have A0 := Lib.hid (show Blk W0 w.heap.size 6 22 (I d) from hW ▸ (Blk.new _ _ _ _).alloc _)
  have R0 := Lib.hid (show Blk W0 (w.heap.size + 1) 6 22 (I fun _ => 0) from hW ▸ Blk.newS (by simp))
  have HB0 := Lib.hid (show Below w.heap.size w W0 from hW ▸ ((Below.refl _ _).alloc (Nat.le_refl _) _).alloc (by simp) _)
  clear hW
  go_at_call 72
  refine (areFaces_any _ 6 22 d (by omega) _ A0.out).mono ?_
  rintro e w1 ⟨rfl, hb⟩
  have A1 := Lib.hid (A0.out.below hb A0.out.lt)
  have R1 := Lib.hid (R0.out.below hb R0.out.lt)
  have HB1 := Lib.hid (HB0.out.trans (hb.mono HB0.out.size))
  clear hb
  cases g : allB (fun i => faceB (d i)) 6
  · have HV := Lib.hid (show sortV d = fun _ => 0 by unfold sortV; rw [g]; rfl)
    go_wp2_with (first | (refine wpList_build0_blk rfl 22 rfl built6 ?_) | (refine wpList_store_blk rfl 22 _ _ rfl (R1.out) rfl rfl sz6 (fun _ _ => rfl) ?_) | fail)
    exact post_blk_tmp rfl (R1.out.setRow _) rfl Try.underlying22 sz6 rfl ⟨by rw [HV.out, g]; rfl, below_setRow HB1.out (by (focus (first | omega | (simp; done) | (simp; omega)))) _⟩
  · have HV := Lib.hid (show row 6 (I (sortV d)) = row 6 (I (asF d 6)) from row_ext (fun i hi => by simp only [I]; unfold sortV; rw [g]; simp only [if_true]; rw [bub_as d i hi]))
    have HR := Lib.hid (show ∀ j, j < 6 → -1000000 ≤ d j ∧ d j ≤ 1000000 from fun j hj => by
      have := (allB_iff _ 6).1 g j hj
      simp only [faceB, Bool.and_eq_true, decide_eq_true_eq] at this
      omega)
    have G := Lib.hid g
    clear g
    go_wp2_with fail
    go_at_call 74
    refine (sort_any w.heap.size 6 22 d (by omega) HR.out _ A1.out).mono ?_
    rintro e w2 ⟨rfl, hA, hg⟩
    have A2 := Lib.hid hA
    have R2 := Lib.hid (R1.out.grown hg (fun e => by injection e with e; omega))
    have HB2 := Lib.hid (below_grown HB1.out hg (fun g e => by injection e with e; omega) HB1.out.size)
    clear hA hg
    go_wp2_with (first | ((with_reducible apply wpList_load_blk); (case hw => rfl); (case ho => rfl); (case hx => rfl); (case hb => with_reducible exact A2.out); (case hu => exact Try.underlying22); (case hi => exact sz6)) | (refine wpList_store_blk rfl 22 _ _ rfl (R2.out) rfl rfl sz6 (fun _ _ => rfl) ?_) | fail)
    exact post_blk_tmp rfl (R2.out.setRow _) rfl Try.underlying22 sz6 rfl ⟨by rw [G.out]; show _ = Ending.returned (.tuple #[.agg (row 6 (I (sortV d))), .bool true]); rw [HV.out]; rfl, below_setRow HB2.out (by (focus (first | omega | (simp; done) | (simp; omega)))) _⟩
end Go.Proofs.Ytlgpejiepogopaa
