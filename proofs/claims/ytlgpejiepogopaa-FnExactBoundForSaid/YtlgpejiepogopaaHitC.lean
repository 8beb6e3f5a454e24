/- Written by gen_hits.py. -/
import Derived.Test.YtlgpejiepogopaaHitT
import Derived.Test.YtlgpejiepogopaaChance2
import Derived.Test.YtlgpejiepogopaaMeans
set_option linter.unusedVariables false
set_option linter.unusedSimpArgs false
set_option linter.unusedSectionVars false
namespace Go.Proofs.Ytlgpejiepogopaa
open Go.RowKit
theorem slice5 (b k : Nat) (hk : k ≤ 4) (w : World) : (Instr.sliceAt 30 (.pointer (some ⟨b, 0, none⟩)) (some (.int .i64 (k : Int))) none none).run Try.prog w = .ok (.slice (some ⟨b, k, none⟩) (5 - k) (5 - k)) w := by
  have hl : Try.prog.arrayLen 30 = 5 := by kernel_rfl
  have he : Try.prog.elem 30 = 3 := by kernel_rfl
  have hs : ∀ w, (sizeOf 3).run Try.prog w = .ok 1 w := fun _ => by kernel_rfl
  have h := run_sliceAt_array_l (P := Try.prog) w 30 ⟨b, 0, none⟩ (by kernel_rfl) .i64 (k : Int) (by omega) (by rw [hl]; omega)
  rw [h, he, hs, hl]
  simp only [Result.andThen_ok, slicedAt, Int.toNat_natCast]
  rw [if_neg (by omega), addr_add, Nat.zero_add, Nat.mul_one]
def manyF (n : Nat) (x : Nat → Nat → Int) (z : Int) (k : Nat) : Int := sumF (hitsF x z n) 5 - sumF (hitsF x z n) k
theorem part5 {t : Nat → Int} (ht : ∀ k, 0 ≤ t k ∧ t k ≤ 1296) {k j : Nat} (hk : k ≤ j) (hj : j ≤ 5) : 0 ≤ sumF t j - sumF t k ∧ sumF t j - sumF t k ≤ 6480 := by
  have h1 := sumF_from t k (j - k)
  have e : k + (j - k) = j := by omega
  rw [e] at h1
  have h0 := sumF_bd (f := fun i => t (k + i)) (m := 1296) (j - k) (fun i hi => ht (k + i))
  omega
theorem manyF_bd (n : Nat) (hn : n ≤ 4) (x : Nat → Nat → Int) (z : Int) (k : Nat) (hk : k ≤ 5) : 0 ≤ manyF n x z k ∧ manyF n x z k ≤ 6480 := part5 (hitsF_bd x z hn) hk (Nat.le_refl _)
set_option maxHeartbeats 1000000 in
theorem l4Chance_any (o : Option Addr) (n c : Nat) (x : Nat → Nat → Int) (hn : n ≤ 1048576) (g : poolB n x = true) (z : Int) (k : Nat) (hk : k ≤ 4) (w : World) (h : PoolAt w o n x) : Calls Try.prog 95 #[poolV o n c, .int .i64 z, .int .i64 (k : Int)] w fun e w' => e = .returned (.agg (row 2 (I (fracV (manyF n x z k).toNat ((sixN n : Int)).toNat)))) ∧ Below w.heap.size w w' := by
  have H := Lib.hid h; clear h
  obtain ⟨n1, n4⟩ := pool_le g
  have s1 := (sixN_le n (by omega)).1
  have s3 := sixN_small n4
  have G1 := Lib.hid g; clear g
  unfold manyF
  obtain ⟨t, ht⟩ : ∃ t, t = hitsF x z n := ⟨_, rfl⟩
  have BT := Lib.hid (show ∀ k, 0 ≤ t k ∧ t k ≤ 1296 from ht ▸ hitsF_bd x z n4)
  have HT := Lib.hid ht
  rw [← ht]
  clear ht
  go_enter Try.func95, Try.ntmps95
  go_wp2_with (first | (refine wpList_alloc_blk rfl 51 rfl zero2 ?_) | fail)
  go_at_call 77
  refine (l4Hits_any o n c x hn G1.out z _ (H.out.alloc _)).mono ?_
  rintro e w1 ⟨rfl, hb⟩
  rw [← HT.out]
  have R1 := Lib.hid (show Blk w1 w.heap.size 2 51 (I fun _ => 0) from (Blk.new _ _ _ _).below hb (by simp))
  have HB1 := Lib.hid (((Below.refl w.heap.size w).alloc (by omega) _).trans (hb.mono (by simp)))
  clear hb
  go_wp2_with (first | (refine wpList_alloc_blk rfl 30 rfl zero5 ?_) | (((with_reducible apply wpList_store_new); (case hw => rfl); (case ho => rfl); (case hx => rfl); (case hy => rfl); (case hg => rfl); (case hi => exact sz5); (case h1 => exact fun _ _ => rfl))) | fail)
  obtain ⟨B, hB0⟩ : ∃ B, B = w1.heap.size := ⟨_, rfl⟩
  have TB := Lib.hid (show Blk (w1.alloc (.cells (row 5 (I t)) 30)) B 5 30 (I t) from hB0 ▸ Blk.new _ _ _ _)
  have R3 := Lib.hid (R1.out.alloc (.cells (row 5 (I t)) 30))
  have TW := Lib.hid (HB1.out.alloc HB1.out.size (.cells (row 5 (I t)) 30))
  rw [← hB0]
  clear hB0
  go_loopw [8, 9] (fun m i wr => ∃ j : Nat, k ≤ j ∧ j ≤ 5 ∧ i = .int .i64 (j : Int) ∧ m = .int .i64 (sumF t j - sumF t k) ∧ Blk wr w.heap.size 2 51 (I fun _ => 0) ∧ Blk wr B 5 30 (I t) ∧ Below w.heap.size w wr) (fun m i _ => 6 - (intOf i).toNat)
  case atStart => exact ⟨k, by omega, by omega, rfl, by simp, R3.out, TB.out, TW.out⟩
  case round =>
    obtain ⟨j, hj1, hj, rfl, rfl, hR, hA, hb⟩ := hrel
    clear TB TW R3
    obtain ⟨e1, e2⟩ := part5 BT.out hj1 hj
    by_cases hlt : j < 5
    · have d1 : decide ((j : Int) < 5) = true := by simp; omega
      have c1 : wr.cell? ⟨B, j, none⟩ = some (.int .i64 (t j)) := hA.cell hlt
      obtain ⟨e6, e7⟩ := BT.out j
      have HS := Lib.hid (show sumF t j - sumF t k + t j = sumF t (j + 1) - sumF t k by rw [sumF_succ]; omega)
      have HA := Lib.hid hA; have HB := Lib.hid hb; have HR := Lib.hid hR
      clear hA hb hR
      go_wp2
      go_roundw
      case rel => exact ⟨j + 1, by omega, by omega, by go_num, by rw [HS.out], HR.out, HA.out, HB.out⟩
      case measure => simp [intOf]; omega
    · obtain rfl : j = 5 := by omega
      have HB := Lib.hid hb; have HR := Lib.hid hR
      have f2 : sumF t 5 - sumF t k ≤ 1000000000 := by omega
      have d1 : decide ((5 : Int) < 5) = false := by decide
      clear hA hb hR
      go_wp2_with (first | (go_at_call 105; refine (l2All_any n (by omega) _).mono ?_; rintro e w' ⟨rfl, rfl⟩) | fail)
      go_at_call 107
      refine (l2Cut_int (sumF t 5 - sumF t k) (sixN n : Int) e1 f2 (by omega) (by omega) _).mono ?_
      rintro e w3 ⟨rfl, hb3⟩
      have R3 := Lib.hid (HR.out.below hb3 HR.out.lt)
      have HB3 := Lib.hid (HB.out.trans (hb3.mono HB.out.size)); clear hb3
      go_wp2_with (first | (refine wpList_store_blk rfl 51 _ _ rfl (R3.out) rfl rfl sz2 (fun _ _ => rfl) ?_) | fail)
      exact post_blk rfl (R3.out.setRow _) rfl Try.underlying51 sz2 rfl ⟨rfl, below_setRow HB3.out (by (focus (first | omega | (simp; done) | (simp; omega)))) _⟩
theorem atLeast_any (o : Option Addr) (n c : Nat) (x : Nat → Nat → Int) (g : poolB n x = true) (z : Int) (k : Nat) (hk : k ≤ 4) (w : World) (h : PoolAt w o n x) : Calls Try.prog 96 #[poolV o n c, .int .i64 z, .int .i64 (k : Int)] w fun e w' => e = .returned (.int .i64 (manyF n x z k)) ∧ Below w.heap.size w w' := by
  have H := Lib.hid h; clear h
  obtain ⟨n1, n4⟩ := pool_le g
  have G1 := Lib.hid g; clear g
  unfold manyF
  obtain ⟨t, ht⟩ : ∃ t, t = hitsF x z n := ⟨_, rfl⟩
  have BT := Lib.hid (show ∀ k, 0 ≤ t k ∧ t k ≤ 1296 from ht ▸ hitsF_bd x z n4)
  have HT := Lib.hid ht
  have HS := Lib.hid (show sumF (fun i => t (k + i)) (5 - k) = sumF t 5 - sumF t k by have := sumF_from t k (5 - k); rw [show k + (5 - k) = 5 by omega] at this; omega)
  rw [← ht]
  clear ht
  go_enter Try.func96, Try.ntmps96
  go_wp2_with fail
  go_at_call 80
  refine (hits_any o n c x G1.out z _ H.out).mono ?_
  rintro e w1 ⟨rfl, hb⟩
  rw [← HT.out]
  have HB1 := Lib.hid hb
  clear hb
  have hs := Lib.hid (slice5 w1.heap.size k hk)
  go_wp2_with (first | (refine wpList_alloc_blk rfl 30 rfl zero5 ?_) | (((with_reducible apply wpList_store_new); (case hw => rfl); (case ho => rfl); (case hx => rfl); (case hy => rfl); (case hg => rfl); (case hi => exact sz5); (case h1 => exact fun _ _ => rfl))) | (((with_reducible apply wpList_slice_lo); (case hw => rfl); (case ho => rfl); (case hx => rfl); (case hy => rfl); (case hr => exact hs.out))) | fail)
  have A3 := Lib.hid (show Blk (w1.alloc (.cells (row 5 (I t)) 30)) w1.heap.size 5 30 (I t) from Blk.new _ _ _ _)
  have HB3 := Lib.hid (HB1.out.alloc HB1.out.size (.cells (row 5 (I t)) 30))
  obtain ⟨w9, hw9⟩ : ∃ w9 : World, w9 = w1.alloc (.cells (row 5 (I t)) 30) := ⟨_, rfl⟩
  rw [← hw9]
  rw [← hw9] at A3 HB3
  clear hw9 hs
  go_at_call 144
  refine (total_at ⟨w1.heap.size, k, none⟩ (5 - k) (5 - k) (fun i => t (k + i)) 1296 (by omega) (by omega) (fun j _ => BT.out (k + j)) _ (fun j hj => by rw [addr_add]; exact A3.out.cell (by omega))).mono ?_
  rintro e w' ⟨rfl, rfl⟩
  rw [HS.out]
  go_wp2
  go_ret
  exact ⟨rfl, HB3.out⟩
noncomputable def chanceH (n : Nat) (x : Nat → Nat → Int) (z y : Int) : Nat → Int := if (poolB n x) && (boundB z) && (inR 0 y 4) then fracV (manyF n x z y.toNat).toNat ((sixN n : Int)).toNat else fun _ => 0
set_option maxHeartbeats 1000000 in
set_option maxRecDepth 100000 in
theorem sChanceHits_any (o : Option Addr) (n c : Nat) (x : Nat → Nat → Int) (hn : n ≤ 1048576) (z y : Int) (w : World) (h : PoolAt w o n x) : Calls Try.prog 46 #[poolV o n c, .int .i64 z, .int .i64 y] w fun e w' => e = .returned (.tuple #[.agg (row 2 (I (chanceH n x z y))), .bool ((poolB n x) && (boundB z) && (inR 0 y 4))]) ∧ Below w.heap.size w w' := by
  have H := Lib.hid h; clear h
  cases g0 : poolB n x
  · have HZ0 := Lib.hid g0
    clear g0
    have HG := Lib.hid (show ((poolB n x) && (boundB z) && (inR 0 y 4)) = false by rw [HZ0.out]; rfl)
    have HV := Lib.hid (show chanceH n x z y = fun _ => 0 by unfold chanceH; rw [HG.out]; rfl)
    rw [HV.out]
    go_enter Try.func46, Try.ntmps46
    go_wp2_with (first | (refine wpList_alloc_blk rfl 51 rfl zero2 ?_) | fail)
    go_at_call 75
    refine (l2Pool_any o n c x hn _ (H.out.alloc _)).mono ?_
    rintro e w1 ⟨rfl, hb1⟩
    have HB1 := Lib.hid hb1; clear hb1
    have R1 := Lib.hid (show Blk w1 w.heap.size 2 51 (I fun _ => 0) from (Blk.new _ _ _ _).below HB1.out (by simp))
    have P1 := Lib.hid ((H.out.alloc _).below HB1.out)
    have HB1 := Lib.hid (((Below.refl w.heap.size w).alloc (by omega) _).trans (HB1.out.mono (by simp)))
    rw [HZ0.out]
    go_wp2_with (first | (refine wpList_build0_blk rfl 51 rfl built2 ?_) | (refine wpList_store_blk rfl 51 _ _ rfl (R1.out) rfl rfl sz2 (fun _ _ => rfl) ?_) | fail)
    exact post_blk_tmp rfl (R1.out.setRow _) rfl Try.underlying51 sz2 rfl ⟨rfl, below_setRow HB1.out (by (focus (first | omega | (simp; done) | (simp; omega)))) _⟩
  · have HZ0 := Lib.hid g0
    cases g1 : boundB z
    · have HZ1 := Lib.hid g1
      clear g1
      have HG := Lib.hid (show ((poolB n x) && (boundB z) && (inR 0 y 4)) = false by rw [HZ0.out, HZ1.out]; rfl)
      have HV := Lib.hid (show chanceH n x z y = fun _ => 0 by unfold chanceH; rw [HG.out]; rfl)
      rw [HV.out]
      go_enter Try.func46, Try.ntmps46
      go_wp2_with (first | (refine wpList_alloc_blk rfl 51 rfl zero2 ?_) | fail)
      go_at_call 75
      refine (l2Pool_any o n c x hn _ (H.out.alloc _)).mono ?_
      rintro e w1 ⟨rfl, hb1⟩
      have HB1 := Lib.hid hb1; clear hb1
      have R1 := Lib.hid (show Blk w1 w.heap.size 2 51 (I fun _ => 0) from (Blk.new _ _ _ _).below HB1.out (by simp))
      have P1 := Lib.hid ((H.out.alloc _).below HB1.out)
      have HB1 := Lib.hid (((Below.refl w.heap.size w).alloc (by omega) _).trans (HB1.out.mono (by simp)))
      rw [HZ0.out]
      go_wp2_with fail
      go_at_call 76
      refine (l4Bound_any z _).mono ?_
      rintro e w' ⟨rfl, rfl⟩
      rw [HZ1.out]
      go_wp2_with (first | (refine wpList_build0_blk rfl 51 rfl built2 ?_) | (refine wpList_store_blk rfl 51 _ _ rfl (R1.out) rfl rfl sz2 (fun _ _ => rfl) ?_) | fail)
      exact post_blk_tmp rfl (R1.out.setRow _) rfl Try.underlying51 sz2 rfl ⟨rfl, below_setRow HB1.out (by (focus (first | omega | (simp; done) | (simp; omega)))) _⟩
    · have HZ1 := Lib.hid g1
      clear g1
      cases g2 : inR 0 y 4
      · have HZ2 := Lib.hid g2
        clear g2
        have HG := Lib.hid (show ((poolB n x) && (boundB z) && (inR 0 y 4)) = false by rw [HZ0.out, HZ1.out, HZ2.out]; rfl)
        have HV := Lib.hid (show chanceH n x z y = fun _ => 0 by unfold chanceH; rw [HG.out]; rfl)
        rw [HV.out]
        go_enter Try.func46, Try.ntmps46
        go_wp2_with (first | (refine wpList_alloc_blk rfl 51 rfl zero2 ?_) | fail)
        go_at_call 75
        refine (l2Pool_any o n c x hn _ (H.out.alloc _)).mono ?_
        rintro e w1 ⟨rfl, hb1⟩
        have HB1 := Lib.hid hb1; clear hb1
        have R1 := Lib.hid (show Blk w1 w.heap.size 2 51 (I fun _ => 0) from (Blk.new _ _ _ _).below HB1.out (by simp))
        have P1 := Lib.hid ((H.out.alloc _).below HB1.out)
        have HB1 := Lib.hid (((Below.refl w.heap.size w).alloc (by omega) _).trans (HB1.out.mono (by simp)))
        rw [HZ0.out]
        go_wp2_with fail
        go_at_call 76
        refine (l4Bound_any z _).mono ?_
        rintro e w' ⟨rfl, rfl⟩
        rw [HZ1.out]
        go_wp2_with fail
        go_at_call 85
        refine (inR_s y 0 4 _).mono ?_
        rintro e w' ⟨rfl, rfl⟩
        rw [HZ2.out]
        go_wp2_with (first | (refine wpList_build0_blk rfl 51 rfl built2 ?_) | (refine wpList_store_blk rfl 51 _ _ rfl (R1.out) rfl rfl sz2 (fun _ _ => rfl) ?_) | fail)
        exact post_blk_tmp rfl (R1.out.setRow _) rfl Try.underlying51 sz2 rfl ⟨rfl, below_setRow HB1.out (by (focus (first | omega | (simp; done) | (simp; omega)))) _⟩
      · have HZ2 := Lib.hid g2
        clear g2
        have HG := Lib.hid (show ((poolB n x) && (boundB z) && (inR 0 y 4)) = true by rw [HZ0.out, HZ1.out, HZ2.out]; rfl)
        have HV := Lib.hid (show chanceH n x z y = fracV (manyF n x z y.toNat).toNat ((sixN n : Int)).toNat by unfold chanceH; rw [HG.out]; rfl)
        rw [HV.out]
        have G1 := Lib.hid g0
        obtain ⟨n1, n4⟩ := pool_le g0
        clear g0
        obtain ⟨k, hk, h1, h4⟩ := inR_nat (by omega) HZ2.out
        have k4 : k ≤ 4 := by omega
        subst hk
        go_enter Try.func46, Try.ntmps46
        go_wp2_with (first | (refine wpList_alloc_blk rfl 51 rfl zero2 ?_) | fail)
        go_at_call 75
        refine (l2Pool_any o n c x hn _ (H.out.alloc _)).mono ?_
        rintro e w1 ⟨rfl, hb1⟩
        have HB1 := Lib.hid hb1; clear hb1
        have R1 := Lib.hid (show Blk w1 w.heap.size 2 51 (I fun _ => 0) from (Blk.new _ _ _ _).below HB1.out (by simp))
        have P1 := Lib.hid ((H.out.alloc _).below HB1.out)
        have HB1 := Lib.hid (((Below.refl w.heap.size w).alloc (by omega) _).trans (HB1.out.mono (by simp)))
        rw [HZ0.out]
        go_wp2_with fail
        go_at_call 76
        refine (l4Bound_any z _).mono ?_
        rintro e w' ⟨rfl, rfl⟩
        rw [HZ1.out]
        go_wp2_with fail
        go_at_call 85
        refine (inR_s _ 0 4 _).mono ?_
        rintro e w' ⟨rfl, rfl⟩
        rw [HZ2.out]
        go_wp2_with fail
        go_at_call 95
        refine (l4Chance_any o n c x hn G1.out z k k4 _ P1.out).mono ?_
        rintro e w2 ⟨rfl, hb⟩
        have R2 := Lib.hid (R1.out.below hb R1.out.lt)
        have HB2 := Lib.hid (HB1.out.trans (hb.mono HB1.out.size))
        clear hb
        go_wp2_with (first | (refine wpList_store_blk rfl 51 _ _ rfl (R2.out) rfl rfl sz2 (fun _ _ => rfl) ?_) | fail)
        exact post_blk_tmp rfl (R2.out.setRow _) rfl Try.underlying51 sz2 rfl ⟨rfl, below_setRow HB2.out (by (focus (first | omega | (simp; done) | (simp; omega)))) _⟩
set_option maxHeartbeats 1000000 in
set_option maxRecDepth 100000 in
theorem iChanceHits_any (o : Option Addr) (n c : Nat) (x : Nat → Nat → Int) (hn : n ≤ 1048576) (z y : Int) (w : World) (h : PoolAt w o n x) : Calls Try.prog 47 #[poolV o n c, .int .i64 z, .int .i64 y] w fun e w' => e = .returned (.tuple #[.agg (row 2 (I (chanceH n x z y))), .bool ((poolB n x) && (boundB z) && (inR 0 y 4))]) ∧ Below w.heap.size w w' := by
  have H := Lib.hid h; clear h
  cases g0 : poolB n x
  · have HZ0 := Lib.hid g0
    clear g0
    have HG := Lib.hid (show ((poolB n x) && (boundB z) && (inR 0 y 4)) = false by rw [HZ0.out]; rfl)
    have HV := Lib.hid (show chanceH n x z y = fun _ => 0 by unfold chanceH; rw [HG.out]; rfl)
    rw [HV.out]
    go_enter Try.func47, Try.ntmps47
    go_wp2_with (first | (refine wpList_alloc_blk rfl 51 rfl zero2 ?_) | fail)
    go_at_call 78
    refine (isPool_any o n c x hn _ (H.out.alloc _)).mono ?_
    rintro e w1 ⟨rfl, hb1⟩
    have HB1 := Lib.hid hb1; clear hb1
    have R1 := Lib.hid (show Blk w1 w.heap.size 2 51 (I fun _ => 0) from (Blk.new _ _ _ _).below HB1.out (by simp))
    have P1 := Lib.hid ((H.out.alloc _).below HB1.out)
    have HB1 := Lib.hid (((Below.refl w.heap.size w).alloc (by omega) _).trans (HB1.out.mono (by simp)))
    rw [HZ0.out]
    go_wp2_with (first | (refine wpList_build0_blk rfl 51 rfl built2 ?_) | (refine wpList_store_blk rfl 51 _ _ rfl (R1.out) rfl rfl sz2 (fun _ _ => rfl) ?_) | fail)
    exact post_blk_tmp rfl (R1.out.setRow _) rfl Try.underlying51 sz2 rfl ⟨rfl, below_setRow HB1.out (by (focus (first | omega | (simp; done) | (simp; omega)))) _⟩
  · have HZ0 := Lib.hid g0
    cases g1 : boundB z
    · have HZ1 := Lib.hid g1
      clear g1
      have HG := Lib.hid (show ((poolB n x) && (boundB z) && (inR 0 y 4)) = false by rw [HZ0.out, HZ1.out]; rfl)
      have HV := Lib.hid (show chanceH n x z y = fun _ => 0 by unfold chanceH; rw [HG.out]; rfl)
      rw [HV.out]
      go_enter Try.func47, Try.ntmps47
      go_wp2_with (first | (refine wpList_alloc_blk rfl 51 rfl zero2 ?_) | fail)
      go_at_call 78
      refine (isPool_any o n c x hn _ (H.out.alloc _)).mono ?_
      rintro e w1 ⟨rfl, hb1⟩
      have HB1 := Lib.hid hb1; clear hb1
      have R1 := Lib.hid (show Blk w1 w.heap.size 2 51 (I fun _ => 0) from (Blk.new _ _ _ _).below HB1.out (by simp))
      have P1 := Lib.hid ((H.out.alloc _).below HB1.out)
      have HB1 := Lib.hid (((Below.refl w.heap.size w).alloc (by omega) _).trans (HB1.out.mono (by simp)))
      rw [HZ0.out]
      go_wp2_with fail
      go_at_call 79
      refine (isBound_any z _).mono ?_
      rintro e w' ⟨rfl, rfl⟩
      rw [HZ1.out]
      go_wp2_with (first | (refine wpList_build0_blk rfl 51 rfl built2 ?_) | (refine wpList_store_blk rfl 51 _ _ rfl (R1.out) rfl rfl sz2 (fun _ _ => rfl) ?_) | fail)
      exact post_blk_tmp rfl (R1.out.setRow _) rfl Try.underlying51 sz2 rfl ⟨rfl, below_setRow HB1.out (by (focus (first | omega | (simp; done) | (simp; omega)))) _⟩
    · have HZ1 := Lib.hid g1
      clear g1
      cases g2 : inR 0 y 4
      · have HZ2 := Lib.hid g2
        clear g2
        have HG := Lib.hid (show ((poolB n x) && (boundB z) && (inR 0 y 4)) = false by rw [HZ0.out, HZ1.out, HZ2.out]; rfl)
        have HV := Lib.hid (show chanceH n x z y = fun _ => 0 by unfold chanceH; rw [HG.out]; rfl)
        rw [HV.out]
        go_enter Try.func47, Try.ntmps47
        go_wp2_with (first | (refine wpList_alloc_blk rfl 51 rfl zero2 ?_) | fail)
        go_at_call 78
        refine (isPool_any o n c x hn _ (H.out.alloc _)).mono ?_
        rintro e w1 ⟨rfl, hb1⟩
        have HB1 := Lib.hid hb1; clear hb1
        have R1 := Lib.hid (show Blk w1 w.heap.size 2 51 (I fun _ => 0) from (Blk.new _ _ _ _).below HB1.out (by simp))
        have P1 := Lib.hid ((H.out.alloc _).below HB1.out)
        have HB1 := Lib.hid (((Below.refl w.heap.size w).alloc (by omega) _).trans (HB1.out.mono (by simp)))
        rw [HZ0.out]
        go_wp2_with fail
        go_at_call 79
        refine (isBound_any z _).mono ?_
        rintro e w' ⟨rfl, rfl⟩
        rw [HZ1.out]
        go_wp2_with fail
        go_at_call 87
        refine (inR_i y 0 4 _).mono ?_
        rintro e w' ⟨rfl, rfl⟩
        rw [HZ2.out]
        go_wp2_with (first | (refine wpList_build0_blk rfl 51 rfl built2 ?_) | (refine wpList_store_blk rfl 51 _ _ rfl (R1.out) rfl rfl sz2 (fun _ _ => rfl) ?_) | fail)
        exact post_blk_tmp rfl (R1.out.setRow _) rfl Try.underlying51 sz2 rfl ⟨rfl, below_setRow HB1.out (by (focus (first | omega | (simp; done) | (simp; omega)))) _⟩
      · have HZ2 := Lib.hid g2
        clear g2
        have HG := Lib.hid (show ((poolB n x) && (boundB z) && (inR 0 y 4)) = true by rw [HZ0.out, HZ1.out, HZ2.out]; rfl)
        have HV := Lib.hid (show chanceH n x z y = fracV (manyF n x z y.toNat).toNat ((sixN n : Int)).toNat by unfold chanceH; rw [HG.out]; rfl)
        rw [HV.out]
        have G1 := Lib.hid g0
        obtain ⟨n1, n4⟩ := pool_le g0
        clear g0
        obtain ⟨k, hk, h1, h4⟩ := inR_nat (by omega) HZ2.out
        have k4 : k ≤ 4 := by omega
        subst hk
        obtain ⟨e1, e2⟩ := manyF_bd n n4 x z k (by omega)
        have e3 : manyF n x z k ≤ 1000000000 := by omega
        have s1 := (sixN_le n (by omega)).1
        have s3 := sixN_small n4
        go_enter Try.func47, Try.ntmps47
        go_wp2_with (first | (refine wpList_alloc_blk rfl 51 rfl zero2 ?_) | fail)
        go_at_call 78
        refine (isPool_any o n c x hn _ (H.out.alloc _)).mono ?_
        rintro e w1 ⟨rfl, hb1⟩
        have HB1 := Lib.hid hb1; clear hb1
        have R1 := Lib.hid (show Blk w1 w.heap.size 2 51 (I fun _ => 0) from (Blk.new _ _ _ _).below HB1.out (by simp))
        have P1 := Lib.hid ((H.out.alloc _).below HB1.out)
        have HB1 := Lib.hid (((Below.refl w.heap.size w).alloc (by omega) _).trans (HB1.out.mono (by simp)))
        rw [HZ0.out]
        go_wp2_with fail
        go_at_call 79
        refine (isBound_any z _).mono ?_
        rintro e w' ⟨rfl, rfl⟩
        rw [HZ1.out]
        go_wp2_with fail
        go_at_call 87
        refine (inR_i _ 0 4 _).mono ?_
        rintro e w' ⟨rfl, rfl⟩
        rw [HZ2.out]
        go_wp2_with fail
        go_at_call 96
        refine (atLeast_any o n c x G1.out z k k4 _ P1.out).mono ?_
        rintro e w2 ⟨rfl, hb⟩
        have R2 := Lib.hid (R1.out.below hb R1.out.lt)
        have HB2 := Lib.hid (HB1.out.trans (hb.mono HB1.out.size))
        clear hb
        go_wp2_with fail
        go_at_call 97
        refine (power_any n (by omega) _).mono ?_
        rintro e w' ⟨rfl, rfl⟩
        go_wp2_with fail
        go_at_call 99
        refine (fraction_int (manyF n x z k) (sixN n : Int) e1 e3 (by omega) (by omega) _).mono ?_
        rintro e w3 ⟨rfl, hb⟩
        have R3 := Lib.hid (R2.out.below hb R2.out.lt)
        have HB3 := Lib.hid (HB2.out.trans (hb.mono HB2.out.size))
        clear hb
        go_wp2_with (first | (refine wpList_store_blk rfl 51 _ _ rfl (R3.out) rfl rfl sz2 (fun _ _ => rfl) ?_) | fail)
        exact post_blk_tmp rfl (R3.out.setRow _) rfl Try.underlying51 sz2 rfl ⟨rfl, below_setRow HB3.out (by (focus (first | omega | (simp; done) | (simp; omega)))) _⟩
end Go.Proofs.Ytlgpejiepogopaa
