/- Written by gen_means.py. -/
import Derived.Test.YtlgpejiepogopaaMeans
import Derived.Test.YtlgpejiepogopaaPlaceT
set_option linter.unusedVariables false
set_option linter.unusedSimpArgs false
set_option linter.unusedSectionVars false
namespace Go.Proofs.Ytlgpejiepogopaa
open Go.RowKit
noncomputable def meanP (n : Nat) (x : Nat → Nat → Int) (z : Int) : Nat → Int := if keepB n x z then fracV (sumF (wF (cntF (placeI n x z.toNat) (sixN n))) 31).toNat ((sixN n : Int)).toNat else fun _ => 0
set_option maxHeartbeats 1000000 in
theorem sMeanPlace_any (o : Option Addr) (n c : Nat) (x : Nat → Nat → Int) (hn : n ≤ 1048576) (z : Int) (w : World) (h : PoolAt w o n x) : Calls Try.prog 43 #[poolV o n c, .int .i64 z] w fun e w' => e = .returned (.tuple #[.agg (row 2 (I (meanP n x z))), .bool (keepB n x z)]) ∧ Below w.heap.size w w' := by
  have H := Lib.hid h; clear h
  cases g : keepB n x z
  · skip
    have HV := Lib.hid (show meanP n x z = fun _ => 0 by unfold meanP; rw [g]; rfl)
    rw [HV.out]
    go_enter Try.func43, Try.ntmps43
    go_wp2_with (first | (refine wpList_alloc_blk rfl 51 rfl zero2 ?_) | fail)
    go_at_call 81
    refine (l4Keeps_any o n c x hn z _ (H.out.alloc _)).mono ?_
    rintro e w1 ⟨rfl, hb1⟩
    have HB1 := Lib.hid hb1; clear hb1
    have R1 := Lib.hid (show Blk w1 w.heap.size 2 51 (I fun _ => 0) from (Blk.new _ _ _ _).below HB1.out (by simp))
    have HB1 := Lib.hid (((Below.refl w.heap.size w).alloc (by omega) _).trans (HB1.out.mono (by simp)))
    rw [g]
    go_wp2_with (first | (refine wpList_build0_blk rfl 51 rfl built2 ?_) | (refine wpList_store_blk rfl 51 _ _ rfl (R1.out) rfl rfl sz2 (fun _ _ => rfl) ?_) | fail)
    exact post_blk_tmp rfl (R1.out.setRow _) rfl Try.underlying51 sz2 rfl ⟨rfl, below_setRow HB1.out (by (focus (first | omega | (simp; done) | (simp; omega)))) _⟩
  · have gg : (poolB n x && (decide ((1 : Int) ≤ z) && decide (z ≤ (n : Int)))) = true := g
    have g1 : poolB n x = true := (Bool.and_eq_true _ _ ▸ gg).1
    have g2 := (Bool.and_eq_true _ _ ▸ gg).2
    obtain ⟨n1, n4⟩ := pool_le g1
    have G1 := Lib.hid g1
    clear g1 gg
    obtain ⟨k, hk, h1, hk2⟩ := keepB_nat g2
    subst hk
    clear g2
    obtain ⟨t, ht⟩ : ∃ t, t = cntF (placeI n x k) (sixN n) := ⟨_, rfl⟩
    have s1 := (sixN_le n (by omega)).1
    have s3 := sixN_small n4
    have HT := Lib.hid (show ∀ j, j < 31 → 0 ≤ t j ∧ t j ≤ 1296 from fun j _ => by have := cntF_bd (placeI n x k) (sixN n) j; rw [ht]; omega)
    have HSm := Lib.hid (show sumF t 31 = ((sixN n : Nat) : Int) by rw [ht]; exact cntF_sum _ 31 (sixN n) (fun j _ => by have := (placeI_eq (pool_small G1.out) h1 hk2 j).2; omega))
    have HE := Lib.hid ht
    clear ht
    have HV := Lib.hid (show meanP n x (k : Int) = fracV (sumF (wF t) 31).toNat ((sixN n : Int)).toNat by unfold meanP; rw [g, HE.out]; rfl)
    rw [HV.out]
    go_enter Try.func43, Try.ntmps43
    go_wp2_with (first | (refine wpList_alloc_blk rfl 51 rfl zero2 ?_) | fail)
    go_at_call 81
    refine (l4Keeps_any o n c x hn (k : Int) _ (H.out.alloc _)).mono ?_
    rintro e w1 ⟨rfl, hb1⟩
    have HB1 := Lib.hid hb1; clear hb1
    have R1 := Lib.hid (show Blk w1 w.heap.size 2 51 (I fun _ => 0) from (Blk.new _ _ _ _).below HB1.out (by simp))
    have P1 := Lib.hid ((H.out.alloc _).below HB1.out)
    have HB1 := Lib.hid (((Below.refl w.heap.size w).alloc (by omega) _).trans (HB1.out.mono (by simp)))
    rw [g]
    clear g
    go_wp2_with fail
    go_at_call 82
    refine (l4At_any o n c x hn G1.out k h1 hk2 _ P1.out).mono ?_
    rintro e w2 ⟨rfl, hb⟩
    rw [← HE.out]
    have R2 := Lib.hid (R1.out.below hb R1.out.lt)
    have HB2 := Lib.hid (HB1.out.trans (hb.mono HB1.out.size))
    clear hb
    go_wp2_with (first | (refine wpList_alloc_blk rfl 37 rfl zero31 ?_) | (((with_reducible apply wpList_store_new); (case hw => rfl); (case ho => rfl); (case hx => rfl); (case hy => rfl); (case hg => rfl); (case hi => exact sz31); (case h1 => exact fun _ _ => rfl))) | fail)
    have TB := Lib.hid (show Blk (w2.alloc (.cells (row 31 (I t)) 37)) w2.heap.size 31 37 (I t) from Blk.new _ _ _ _)
    have R3 := Lib.hid (R2.out.alloc (.cells (row 31 (I t)) 37))
    have TW := Lib.hid (HB2.out.alloc HB2.out.size (.cells (row 31 (I t)) 37))
    go_wp2_with fail
    go_at_call 98
    refine (l4Mean_any w2.heap.size 31 _ t (by omega) HT.out (sixN n) HSm.out s1 s3 _ TB.out).mono ?_
    rintro e w3 ⟨rfl, hb3⟩
    have R4 := Lib.hid (R3.out.below hb3 R3.out.lt)
    have HB4 := Lib.hid (TW.out.trans (hb3.mono TW.out.size)); clear hb3
    go_wp2_with (first | (refine wpList_store_blk rfl 51 _ _ rfl (R4.out) rfl rfl sz2 (fun _ _ => rfl) ?_) | fail)
    exact post_blk_tmp rfl (R4.out.setRow _) rfl Try.underlying51 sz2 rfl ⟨rfl, below_setRow HB4.out (by (focus (first | omega | (simp; done) | (simp; omega)))) _⟩
set_option maxHeartbeats 1000000 in
set_option maxRecDepth 100000 in
theorem iMeanPlace_any (o : Option Addr) (n c : Nat) (x : Nat → Nat → Int) (hn : n ≤ 1048576) (z : Int) (w : World) (h : PoolAt w o n x) : Calls Try.prog 44 #[poolV o n c, .int .i64 z] w fun e w' => e = .returned (.tuple #[.agg (row 2 (I (meanP n x z))), .bool (keepB n x z)]) ∧ Below w.heap.size w w' := by
  have H := Lib.hid h; clear h
  cases g1 : poolB n x
  · have HG := Lib.hid (show keepB n x z = false by unfold keepB; rw [g1]; rfl)
    rw [HG.out]
    have HV := Lib.hid (show meanP n x z = fun _ => 0 by unfold meanP; rw [HG.out]; rfl)
    rw [HV.out]
    go_enter Try.func44, Try.ntmps44
    go_wp2_with (first | (refine wpList_alloc_blk rfl 51 rfl zero2 ?_) | fail)
    go_at_call 78
    refine (isPool_any o n c x hn _ (H.out.alloc _)).mono ?_
    rintro e w1 ⟨rfl, hb1⟩
    have HB1 := Lib.hid hb1; clear hb1
    have R1 := Lib.hid (show Blk w1 w.heap.size 2 51 (I fun _ => 0) from (Blk.new _ _ _ _).below HB1.out (by simp))
    have HB1 := Lib.hid (((Below.refl w.heap.size w).alloc (by omega) _).trans (HB1.out.mono (by simp)))
    rw [g1]
    go_wp2_with (first | (refine wpList_build0_blk rfl 51 rfl built2 ?_) | (refine wpList_store_blk rfl 51 _ _ rfl (R1.out) rfl rfl sz2 (fun _ _ => rfl) ?_) | fail)
    exact post_blk_tmp rfl (R1.out.setRow _) rfl Try.underlying51 sz2 rfl ⟨rfl, below_setRow HB1.out (by (focus (first | omega | (simp; done) | (simp; omega)))) _⟩
  · cases g2 : (decide ((1 : Int) ≤ z) && decide (z ≤ (n : Int)))
    · have HG := Lib.hid (show keepB n x z = false by unfold keepB; rw [g1, g2]; rfl)
      have HZ := Lib.hid g2
      clear g2
      rw [HG.out]
      have HV := Lib.hid (show meanP n x z = fun _ => 0 by unfold meanP; rw [HG.out]; rfl)
      rw [HV.out]
      go_enter Try.func44, Try.ntmps44
      go_wp2_with (first | (refine wpList_alloc_blk rfl 51 rfl zero2 ?_) | fail)
      go_at_call 78
      refine (isPool_any o n c x hn _ (H.out.alloc _)).mono ?_
      rintro e w1 ⟨rfl, hb1⟩
      have HB1 := Lib.hid hb1; clear hb1
      have R1 := Lib.hid (show Blk w1 w.heap.size 2 51 (I fun _ => 0) from (Blk.new _ _ _ _).below HB1.out (by simp))
      have HB1 := Lib.hid (((Below.refl w.heap.size w).alloc (by omega) _).trans (HB1.out.mono (by simp)))
      rw [g1]
      go_wp2_with fail
      go_at_call 83
      refine (isCount_any o n c hn _ _).mono ?_
      rintro e w' ⟨rfl, rfl⟩
      rw [HZ.out]
      go_wp2_with (first | (refine wpList_build0_blk rfl 51 rfl built2 ?_) | (refine wpList_store_blk rfl 51 _ _ rfl (R1.out) rfl rfl sz2 (fun _ _ => rfl) ?_) | fail)
      exact post_blk_tmp rfl (R1.out.setRow _) rfl Try.underlying51 sz2 rfl ⟨rfl, below_setRow HB1.out (by (focus (first | omega | (simp; done) | (simp; omega)))) _⟩
    · have HG := Lib.hid (show keepB n x z = true by unfold keepB; rw [g1, g2]; rfl)
      have HZ := Lib.hid g2
      have G1 := Lib.hid g1
      obtain ⟨n1, n4⟩ := pool_le g1
      obtain ⟨k, hk, h1, hk2⟩ := keepB_nat g2
      subst hk
      clear g2
      obtain ⟨t, ht⟩ : ∃ t, t = cntF (placeI n x k) (sixN n) := ⟨_, rfl⟩
      have s1 := (sixN_le n (by omega)).1
      have s3 := sixN_small n4
      have HT := Lib.hid (show ∀ j, j < 31 → 0 ≤ t j ∧ t j ≤ 1296 from fun j _ => by have := cntF_bd (placeI n x k) (sixN n) j; rw [ht]; omega)
      have HSm := Lib.hid (show sumF t 31 = ((sixN n : Nat) : Int) by rw [ht]; exact cntF_sum _ 31 (sixN n) (fun j _ => by have := (placeI_eq (pool_small G1.out) h1 hk2 j).2; omega))
      have HE := Lib.hid ht
      clear ht
      rw [HG.out]
      have HV := Lib.hid (show meanP n x (k : Int) = fracV (sumF (wF t) 31).toNat ((sixN n : Int)).toNat by unfold meanP; rw [HG.out, HE.out]; rfl)
      rw [HV.out]
      go_enter Try.func44, Try.ntmps44
      go_wp2_with (first | (refine wpList_alloc_blk rfl 51 rfl zero2 ?_) | fail)
      go_at_call 78
      refine (isPool_any o n c x hn _ (H.out.alloc _)).mono ?_
      rintro e w1 ⟨rfl, hb1⟩
      have HB1 := Lib.hid hb1; clear hb1
      have R1 := Lib.hid (show Blk w1 w.heap.size 2 51 (I fun _ => 0) from (Blk.new _ _ _ _).below HB1.out (by simp))
      have P1 := Lib.hid ((H.out.alloc _).below HB1.out)
      have HB1 := Lib.hid (((Below.refl w.heap.size w).alloc (by omega) _).trans (HB1.out.mono (by simp)))
      rw [g1]
      clear g1
      go_wp2_with fail
      go_at_call 83
      refine (isCount_any o n c hn _ _).mono ?_
      rintro e w' ⟨rfl, rfl⟩
      rw [HZ.out]
      go_wp2_with fail
      go_at_call 84
      refine (placed_any o n c x G1.out k h1 hk2 _ P1.out).mono ?_
      rintro e w2 ⟨rfl, hb⟩
      rw [← HE.out]
      have R2 := Lib.hid (R1.out.below hb R1.out.lt)
      have HB2 := Lib.hid (HB1.out.trans (hb.mono HB1.out.size))
      clear hb
      obtain ⟨q1, q2⟩ := wF_bd HT.out (by omega)
      have Q1 := Lib.hid q1; have Q2 := Lib.hid q2
      clear q1 q2
      go_wp2
      go_loopw [6, 22] (fun s i wr => ∃ j : Nat, j ≤ 31 ∧ i = .int .i64 (j : Int) ∧ s = .int .i64 (sumF (wF t) j) ∧ w2 = wr) (fun s i _ => 32 - (intOf i).toNat)
      case atStart => exact ⟨0, by omega, rfl, rfl, rfl⟩
      case round =>
        obtain ⟨j, hj, rfl, rfl, rfl⟩ := hrel
        obtain ⟨e1, e2⟩ := Q2.out j hj
        by_cases hlt : j < 31
        · have d0 : decide ((j : Int) < 31) = true := by simp; omega
          obtain ⟨e5, e6⟩ := Q1.out j hlt
          obtain ⟨e7, e8⟩ := HT.out j hlt
          have HW := Lib.hid (show sumF (wF t) j + wF t j = sumF (wF t) (j + 1) from rfl)
          obtain ⟨p, hp⟩ : ∃ p, p = wF t j := ⟨_, rfl⟩
          have hm : (j : Int) * t j = p := hp ▸ rfl
          rw [← hp] at e5 e6
          go_wp2_with (first | (((with_reducible apply wpList_indexv); (case hw => rfl); (case ho => rfl); (case hx => rfl); (case hy => rfl); (case hr => exact idx31v t j hlt))) | fail)
          go_roundw
          case rel => exact ⟨j + 1, by omega, by go_num, by rw [← HW.out, ← hp], trivial⟩
          case measure => simp [intOf]; omega
        · have d0 : decide ((j : Int) < 31) = false := by simp; omega
          obtain rfl : j = 31 := by omega
          have e5 : sumF (wF t) 31 ≤ 1000000000 := by omega
          go_wp2_with fail
          go_at_call 97
          refine (power_any n (by omega) _).mono ?_
          rintro e w' ⟨rfl, rfl⟩
          go_wp2_with fail
          go_at_call 99
          refine (fraction_int (sumF (wF t) 31) (sixN n : Int) e1 e5 (by omega) (by omega) _).mono ?_
          rintro e w3 ⟨rfl, hb3⟩
          have R3 := Lib.hid (R2.out.below hb3 R2.out.lt)
          have HB3 := Lib.hid (HB2.out.trans (hb3.mono HB2.out.size)); clear hb3
          go_wp2_with (first | (refine wpList_store_blk rfl 51 _ _ rfl (R3.out) rfl rfl sz2 (fun _ _ => rfl) ?_) | fail)
          exact post_blk_tmp rfl (R3.out.setRow _) rfl Try.underlying51 sz2 rfl ⟨rfl, below_setRow HB3.out (by (focus (first | omega | (simp; done) | (simp; omega)))) _⟩
end Go.Proofs.Ytlgpejiepogopaa
