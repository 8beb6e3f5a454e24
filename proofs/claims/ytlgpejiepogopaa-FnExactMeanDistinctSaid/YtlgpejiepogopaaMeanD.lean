/- MeanDistinct, both sides. -/
import Derived.Test.YtlgpejiepogopaaPat
import Derived.Test.YtlgpejiepogopaaDist
import Derived.Test.YtlgpejiepogopaaKeeps
import Derived.Test.YtlgpejiepogopaaMean
import Derived.Test.YtlgpejiepogopaaTail
import Derived.Test.YtlgpejiepogopaaGrow
set_option linter.unusedVariables false
set_option linter.unusedSimpArgs false
set_option linter.unusedSectionVars false
namespace Go.Proofs.Ytlgpejiepogopaa
open Go.RowKit
noncomputable def distV (n : Nat) (x : Nat → Nat → Int) : Nat → Int := if poolB n x then fracV (sumF (fun j => (distI n x j : Int)) (sixN n)).toNat ((sixN n : Int)).toNat else fun _ => 0
set_option maxHeartbeats 1000000 in
set_option maxRecDepth 100000 in
theorem sMeanDistinct_any (o : Option Addr) (n c : Nat) (x : Nat → Nat → Int) (hn : n ≤ 1048576) (w : World) (h : PoolAt w o n x) : Calls Try.prog 53 #[poolV o n c] w fun e w' => e = .returned (.tuple #[.agg (row 2 (I (distV n x))), .bool (poolB n x)]) ∧ Below w.heap.size w w' := by
  have H := Lib.hid h; clear h
  cases g : poolB n x
  · have HV := Lib.hid (show distV n x = fun _ => 0 by unfold distV; rw [g]; rfl)
    rw [HV.out]
    go_enter Try.func53, Try.ntmps53
    go_wp2_with (first | (refine wpList_alloc_blk rfl 51 rfl zero2 ?_) | fail)
    go_at_call 75
    refine (l2Pool_any o n c x hn _ (H.out.alloc _)).mono ?_
    rintro e w1 ⟨rfl, hb1⟩
    have HB1 := Lib.hid hb1; clear hb1
    have R1 := Lib.hid (show Blk w1 w.heap.size 2 51 (I fun _ => 0) from (Blk.new _ _ _ _).below HB1.out (by simp))
    have HB1 := Lib.hid (((Below.refl w.heap.size w).alloc (by omega) _).trans (HB1.out.mono (by simp)))
    rw [g]
    go_wp2_with (first | (refine wpList_build0_blk rfl 51 rfl built2 ?_) | (refine wpList_store_blk rfl 51 _ _ rfl (R1.out) rfl rfl sz2 (fun _ _ => rfl) ?_) | fail)
    exact post_blk_tmp rfl (R1.out.setRow _) rfl Try.underlying51 sz2 rfl ⟨rfl, below_setRow HB1.out (by (focus (first | omega | (simp; done) | (simp; omega)))) _⟩
  · have HV := Lib.hid (show distV n x = fracV (sumF (fun j => (distI n x j : Int)) (sixN n)).toNat ((sixN n : Int)).toNat by unfold distV; rw [g]; rfl)
    obtain ⟨n1, n4⟩ := pool_le g
    have n8 : n ≤ 8 := by omega
    have s1 := (sixN_le n (by omega)).1
    have s3 := sixN_small n4
    rw [HV.out]
    go_enter Try.func53, Try.ntmps53
    go_wp2_with (first | (refine wpList_alloc_blk rfl 51 rfl zero2 ?_) | fail)
    go_at_call 75
    refine (l2Pool_any o n c x hn _ (H.out.alloc _)).mono ?_
    rintro e w1 ⟨rfl, hb1⟩
    have HB1 := Lib.hid hb1; clear hb1
    have R1 := Lib.hid (show Blk w1 w.heap.size 2 51 (I fun _ => 0) from (Blk.new _ _ _ _).below HB1.out (by simp))
    have HB1 := Lib.hid (((Below.refl w.heap.size w).alloc (by omega) _).trans (HB1.out.mono (by simp)))
    rw [g]
    clear g
    go_wp2
    go_loopw [4, 5] (fun a i wr => ∃ m : Nat, m ≤ sixN n ∧ i = .int .i64 (m : Int) ∧ a = .int .i64 (sumF (fun j => (distI n x j : Int)) m) ∧ Blk wr w.heap.size 2 51 (I fun _ => 0) ∧ Below w.heap.size w wr) (fun a i _ => 1300 - (intOf i).toNat)
    case atStart => exact ⟨0, by omega, rfl, rfl, R1.out, HB1.out⟩
    case round =>
      obtain ⟨m, hm, rfl, rfl, hR, hb⟩ := hrel
      clear R1 HB1
      have R1 := Lib.hid hR; have HB1 := Lib.hid hb
      clear hR hb
      obtain ⟨a1, a2⟩ := allD_bd n x n4 m
      obtain ⟨a, ha⟩ : ∃ a, a = sumF (fun j => (distI n x j : Int)) m := ⟨_, rfl⟩
      rw [← ha] at a1 a2
      have HS := Lib.hid (show sumF (fun j => (distI n x j : Int)) (m + 1) = a + (distI n x m : Int) by rw [ha]; rfl)
      have HA := Lib.hid ha
      rw [← ha]
      clear ha
      by_cases hlt : m < sixN n
      · have d0 : decide (m < sixN n) = true := by simp; omega
        obtain ⟨wo, rfl⟩ : ∃ wo : World, wo = wr := ⟨_, rfl⟩
        go_wp2_with fail
        go_at_call 105
        refine (l2All_any n n8 _).mono ?_
        rintro e w' ⟨rfl, rfl⟩
        go_wp2_with fail
        go_at_call 106
        refine (l2Roll_any o n c x m n1 n4 (by omega) _ (H.out.below HB1.out)).mono ?_
        rintro e w1 ⟨rfl, hA, hb⟩
        have A1 := Lib.hid hA; have R2 := Lib.hid (R1.out.below hb R1.out.lt); have HB2 := Lib.hid (HB1.out.trans (hb.mono HB1.out.size))
        clear hA hb
        go_wp2_with fail
        go_at_call 101
        refine (l4Pattern_any wo.heap.size n (rollF n x m) n4 _ A1.out).mono ?_
        rintro e w2 ⟨rfl, hb⟩
        have R3 := Lib.hid (R2.out.below hb R2.out.lt); have HB3 := Lib.hid (HB2.out.trans (hb.mono HB2.out.size))
        clear hb
        obtain ⟨t, ht⟩ : ∃ t, t = patF (plF (rollF n x m) n) n := ⟨_, rfl⟩
        have HP := Lib.hid (show hc t 1 4 = distI n x m by rw [ht]; exact pat_hc _ n n4)
        have BT := Lib.hid (show ∀ j, 0 ≤ t j ∧ t j ≤ 4 from fun j => by have := patF_bd (plF (rollF n x m) n) n j; rw [ht]; omega)
        rw [← ht]
        clear ht
        go_wp2_with (first | (refine wpList_alloc_blk rfl 57 rfl zero4 ?_) | (((with_reducible apply wpList_store_new); (case hw => rfl); (case ho => rfl); (case hx => rfl); (case hy => rfl); (case hg => rfl); (case hi => exact sz4); (case h1 => exact fun _ _ => rfl))) | fail)
        generalize hW : w2.alloc (.cells (row 4 (I t)) 57) = W3
        obtain ⟨B, hB⟩ : ∃ B, B = w2.heap.size := ⟨_, rfl⟩
        have T3 := Lib.hid (show Blk W3 B 4 57 (I t) from hW ▸ hB ▸ Blk.new _ _ _ _)
        have R4 := Lib.hid (show Blk W3 w.heap.size 2 51 (I fun _ => 0) from hW ▸ R3.out.alloc _)
        have HB4 := Lib.hid (show Below w.heap.size w W3 from hW ▸ HB3.out.alloc HB3.out.size _)
        rw [← hB]
        clear hW hB R3 HB3
        go_loopw [4, 7] (fun v i wr => ∃ j : Nat, j ≤ 4 ∧ i = .int .i64 (j : Int) ∧ v = .int .i64 (a + (hc t 1 j : Nat)) ∧ W3 = wr) (fun v i _ => 4 - (intOf i).toNat)
        case atStart => exact ⟨0, by omega, rfl, by simp [hc], rfl⟩
        case round =>
          obtain ⟨j, hj, rfl, rfl, rfl⟩ := hrel
          have hl := hc_le t 1 j
          obtain ⟨u, hu⟩ : ∃ u, u = hc t 1 j := ⟨_, rfl⟩
          rw [← hu] at hl
          rw [← hu]
          by_cases hlj : j < 4
          · have d1 : decide ((j : Int) < 4) = true := by simp; omega
            have c1 : W3.cell? ⟨B, j, none⟩ = some (.int .i64 (t j)) := T3.out.cell hlj
            by_cases hz : 0 < t j
            · have HN := Lib.hid (show hc t 1 (j + 1) = u + 1 by simp only [hc]; rw [if_pos (by omega), hu])
              have d2 : decide (0 < t j) = true := by simp; omega
              clear hu hz
              go_wp2
              go_roundw
              case rel => exact ⟨j + 1, by omega, by go_num, by rw [HN.out]; go_num, trivial⟩
              case measure => simp [intOf]; omega
            · have HN := Lib.hid (show hc t 1 (j + 1) = u by simp only [hc]; rw [if_neg (by omega), hu]; rfl)
              have d2 : decide (0 < t j) = false := by simp; omega
              clear hu hz
              go_wp2
              go_roundw
              case rel => exact ⟨j + 1, by omega, by go_num, by rw [HN.out], trivial⟩
              case measure => simp [intOf]; omega
          · have d1 : decide ((j : Int) < 4) = false := by simp; omega
            obtain rfl : j = 4 := by omega
            have HU := Lib.hid hu
            clear hu
            go_wp2
            go_roundw
            case rel => exact ⟨m + 1, by omega, by go_num, by rw [HS.out, HU.out, HP.out], R4.out, HB4.out⟩
            case measure => simp [intOf]; omega
      · have HE := Lib.hid (show m = sixN n by omega)
        have d0 : decide (m < sixN n) = false := by simp; omega
        have e5 : a ≤ 1000000000 := by omega
        go_wp2_with fail
        go_at_call 105
        refine (l2All_any n n8 _).mono ?_
        rintro e w' ⟨rfl, rfl⟩
        go_wp2_with fail
        go_at_call 105
        refine (l2All_any n n8 _).mono ?_
        rintro e w' ⟨rfl, rfl⟩
        go_wp2_with fail
        go_at_call 107
        refine (l2Cut_int a (sixN n : Int) a1 e5 (by omega) (by omega) _).mono ?_
        rintro e w3 ⟨rfl, hb3⟩
        have R3 := Lib.hid (R1.out.below hb3 R1.out.lt)
        have HB3 := Lib.hid (HB1.out.trans (hb3.mono HB1.out.size)); clear hb3
        go_wp2_with (first | (refine wpList_store_blk rfl 51 _ _ rfl (R3.out) rfl rfl sz2 (fun _ _ => rfl) ?_) | fail)
        exact post_blk_tmp rfl (R3.out.setRow _) rfl Try.underlying51 sz2 rfl ⟨by rw [HA.out, HE.out]; rfl, below_setRow HB3.out (by (focus (first | omega | (simp; done) | (simp; omega)))) _⟩
set_option maxHeartbeats 1000000 in
set_option maxRecDepth 100000 in
theorem iMeanDistinct_any (o : Option Addr) (n c : Nat) (x : Nat → Nat → Int) (hn : n ≤ 1048576) (w : World) (h : PoolAt w o n x) : Calls Try.prog 54 #[poolV o n c] w fun e w' => e = .returned (.tuple #[.agg (row 2 (I (distV n x))), .bool (poolB n x)]) ∧ Below w.heap.size w w' := by
  have H := Lib.hid h; clear h
  cases g : poolB n x
  · have HV := Lib.hid (show distV n x = fun _ => 0 by unfold distV; rw [g]; rfl)
    rw [HV.out]
    go_enter Try.func54, Try.ntmps54
    go_wp2_with (first | (refine wpList_alloc_blk rfl 51 rfl zero2 ?_) | fail)
    go_at_call 78
    refine (isPool_any o n c x hn _ (H.out.alloc _)).mono ?_
    rintro e w1 ⟨rfl, hb1⟩
    have HB1 := Lib.hid hb1; clear hb1
    have R1 := Lib.hid (show Blk w1 w.heap.size 2 51 (I fun _ => 0) from (Blk.new _ _ _ _).below HB1.out (by simp))
    have HB1 := Lib.hid (((Below.refl w.heap.size w).alloc (by omega) _).trans (HB1.out.mono (by simp)))
    rw [g]
    go_wp2_with (first | (refine wpList_build0_blk rfl 51 rfl built2 ?_) | (refine wpList_store_blk rfl 51 _ _ rfl (R1.out) rfl rfl sz2 (fun _ _ => rfl) ?_) | fail)
    exact post_blk_tmp rfl (R1.out.setRow _) rfl Try.underlying51 sz2 rfl ⟨rfl, below_setRow HB1.out (by (focus (first | omega | (simp; done) | (simp; omega)))) _⟩
  · have HV := Lib.hid (show distV n x = fracV (sumF (fun j => (distI n x j : Int)) (sixN n)).toNat ((sixN n : Int)).toNat by unfold distV; rw [g]; rfl)
    have G1 := Lib.hid g
    obtain ⟨n1, n4⟩ := pool_le g
    have s1 := (sixN_le n (by omega)).1
    have s3 := sixN_small n4
    obtain ⟨a1, a2⟩ := allD_bd n x n4 (sixN n)
    have HPL := Lib.hid (pool_lt H.out (pool_le g).1)
    rw [HV.out]
    go_enter Try.func54, Try.ntmps54
    go_wp2_with (first | (refine wpList_alloc_blk rfl 51 rfl zero2 ?_) | fail)
    go_at_call 78
    refine (isPool_any o n c x hn _ (H.out.alloc _)).mono ?_
    rintro e w1 ⟨rfl, hb1⟩
    have HB1 := Lib.hid hb1; clear hb1
    have R1 := Lib.hid (show Blk w1 w.heap.size 2 51 (I fun _ => 0) from (Blk.new _ _ _ _).below HB1.out (by simp))
    have P1 := Lib.hid ((H.out.alloc _).below HB1.out)
    have HB1 := Lib.hid (((Below.refl w.heap.size w).alloc (by omega) _).trans (HB1.out.mono (by simp)))
    rw [g]
    clear g
    go_wp2_with fail
    generalize hW : w1.alloc (.cells #[.int .i64 0] 3) = W2
    obtain ⟨B, hB⟩ : ∃ B, B = w1.heap.size := ⟨_, rfl⟩
    have B2 := Lib.hid (show Blk W2 B 1 3 (I (allD n x 0)) from by
      have e : (#[.int .i64 0] : Array Value) = row 1 (I (allD n x 0)) := by simp [row, I, allD, sumF]
      rw [← hW, hB, e]
      exact Blk.new _ _ _ _)
    have R2 := Lib.hid (show Blk W2 w.heap.size 2 51 (I fun _ => 0) from hW ▸ R1.out.alloc _)
    have P2 := Lib.hid (show PoolAt W2 o n x from hW ▸ P1.out.alloc _)
    have HB2 := Lib.hid (show Below w.heap.size w W2 from hW ▸ HB1.out.alloc HB1.out.size _)
    have HNB := Lib.hid (show w.heap.size < B from hB ▸ R1.out.lt)
    rw [← hB]
    clear hW hB
    go_at_call 108
    refine (rolls_dist o n c x G1.out B _ P2.out (fun a ha => by have := HPL.out a ha; have := HNB.out; omega) B2.out).mono ?_
    rintro e w3 ⟨rfl, hB3, hg⟩
    have B3 := Lib.hid hB3
    have R3 := Lib.hid (R2.out.grown hg (fun e => by injection e with e; have := HNB.out; omega))
    have HB3 := Lib.hid (below_grown HB2.out hg (fun g e => by injection e with e; have := HNB.out; omega) HB2.out.size)
    clear hB3 hg
    obtain ⟨a, ha⟩ : ∃ a, a = sumF (fun j => (distI n x j : Int)) (sixN n) := ⟨_, rfl⟩
    rw [← ha] at a1 a2
    have C1 := Lib.hid (show w3.cell? ⟨B, 0, none⟩ = some (.int .i64 a) from by rw [B3.out.cell (by omega)]; simp only [I, allD, ha])
    have HA := Lib.hid ha
    have e5 : a ≤ 1000000000 := by omega
    have y1 : 0 < (sixN n : Int) := by omega
    have y2 : (sixN n : Int) ≤ 1000000000 := by omega
    clear ha
    go_wp2
    refine wp_region_grown_tail 5 (by kernel_rfl) (by kernel_rfl) ?_
    simp only [List.take_succ_cons, List.take_zero, List.drop_succ_cons, List.drop_zero]
    repeat (first | go_big_quiet_skip | (go_big_quiet_want; (first | (refine grown_load_int 3 _ rfl rfl (C1.out) Try.isAgg3 ?_; simp only [Act.put, List.setIfInBounds_toArray, List.set_cons_succ, List.set_cons_zero]; go_big_quiet_on) | (go_big_quiet_op; (first | go_big_quiet_on | (refine ⟨_, fun _ _ => rfl, ?_⟩; go_big_quiet_on) | (apply Exists.intro; refine ⟨fun _ hC => ?_, ?_⟩; (first | (go_at_call 97; exact grown_same hC (power_any n (by omega) _)) | (go_at_call 99; with_reducible exact grown_of hC (fraction_int a (sixN n : Int) a1 e5 y1 y2 _))); go_big_quiet_on))))))
    refine wpQuiet_nil ?_
    intro wg hg
    have R4 := Lib.hid (R3.out.below hg.below R3.out.lt)
    have HB4 := Lib.hid (HB3.out.trans (hg.below.mono HB3.out.size))
    clear hg
    go_wp2_with (first | (refine wpList_store_blk rfl 51 _ _ rfl (R4.out) rfl rfl sz2 (fun _ _ => rfl) ?_) | fail)
    exact post_blk_tmp rfl (R4.out.setRow _) rfl Try.underlying51 sz2 rfl ⟨by rw [HA.out]; rfl, below_setRow HB4.out (by (focus (first | omega | (simp; done) | (simp; omega)))) _⟩
end Go.Proofs.Ytlgpejiepogopaa
