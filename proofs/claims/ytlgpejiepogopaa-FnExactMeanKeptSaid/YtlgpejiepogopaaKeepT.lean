/- Written by gen_keeps.py. -/
import Derived.Test.YtlgpejiepogopaaKeeps
import Derived.Test.YtlgpejiepogopaaKept
set_option linter.unusedVariables false
set_option linter.unusedSimpArgs false
set_option linter.unusedSectionVars false
namespace Go.Proofs.Ytlgpejiepogopaa
open Go.RowKit
noncomputable def keepV (n : Nat) (x : Nat → Nat → Int) (z : Int) : Nat → Int := if keepB n x z then cntF (keptI n x (z.toNat)) (sixN n) else fun _ => 0
set_option maxHeartbeats 1000000 in
theorem sKeepTable_any (o : Option Addr) (n c : Nat) (x : Nat → Nat → Int) (hn : n ≤ 1048576) (z : Int) (w : World) (h : PoolAt w o n x) : Calls Try.prog 35 #[poolV o n c, .int .i64 z] w fun e w' => e = .returned (.tuple #[.agg (row 121 (I (keepV n x z))), .bool (keepB n x z)]) ∧ Below w.heap.size w w' := by
  have H := Lib.hid h; clear h
  cases g : keepB n x z
  · skip
    have HV := Lib.hid (show keepV n x z = fun _ => 0 by unfold keepV; rw [g]; rfl)
    rw [HV.out]
    go_enter Try.func35, Try.ntmps35
    go_wp2_with (first | (refine wpList_alloc_blk rfl 41 rfl zero121 ?_) | fail)
    go_at_call 81
    refine (l4Keeps_any o n c x hn z _ (H.out.alloc _)).mono ?_
    rintro e w1 ⟨rfl, hb1⟩
    have HB1 := Lib.hid hb1; clear hb1
    have R1 := Lib.hid (show Blk w1 w.heap.size 121 41 (I fun _ => 0) from (Blk.new _ _ _ _).below HB1.out (by simp))
    have HB1 := Lib.hid (((Below.refl w.heap.size w).alloc (by omega) _).trans (HB1.out.mono (by simp)))
    rw [g]
    go_wp2_with (first | (refine wpList_build0_blk rfl 41 rfl built121 ?_) | (refine wpList_store_blk rfl 41 _ _ rfl (R1.out) rfl rfl sz121 (fun _ _ => rfl) ?_) | fail)
    exact post_blk_tmp rfl (R1.out.setRow _) rfl Try.underlying41 sz121 rfl ⟨rfl, below_setRow HB1.out (by (focus (first | omega | (simp; done) | (simp; omega)))) _⟩
  · have gg : (poolB n x && (decide ((1 : Int) ≤ z) && decide (z ≤ (n : Int)))) = true := g
    have g1 : poolB n x = true := (Bool.and_eq_true _ _ ▸ gg).1
    have g2 := (Bool.and_eq_true _ _ ▸ gg).2
    obtain ⟨k, hk, h1, hk2⟩ := keepB_nat g2
    have HK := Lib.hid (show z.toNat = k by omega)
    subst hk
    have G1 := Lib.hid g1
    clear g1 g2 gg
    have HV := Lib.hid (show keepV n x (k : Int) = cntF (keptI n x ((k : Int).toNat)) (sixN n) by unfold keepV; rw [g]; rfl)
    rw [HV.out]
    go_enter Try.func35, Try.ntmps35
    go_wp2_with (first | (refine wpList_alloc_blk rfl 41 rfl zero121 ?_) | fail)
    go_at_call 81
    refine (l4Keeps_any o n c x hn (k : Int) _ (H.out.alloc _)).mono ?_
    rintro e w1 ⟨rfl, hb1⟩
    have HB1 := Lib.hid hb1; clear hb1
    have R1 := Lib.hid (show Blk w1 w.heap.size 121 41 (I fun _ => 0) from (Blk.new _ _ _ _).below HB1.out (by simp))
    have P1 := Lib.hid ((H.out.alloc _).below HB1.out)
    have HB1 := Lib.hid (((Below.refl w.heap.size w).alloc (by omega) _).trans (HB1.out.mono (by simp)))
    rw [g]
    clear g
    go_wp2_with fail
    go_at_call 86
    refine (l4Kept_any o n c x hn G1.out k hk2 _ P1.out).mono ?_
    rintro e w2 ⟨rfl, hb⟩
    have R2 := Lib.hid (R1.out.below hb R1.out.lt)
    have HB2 := Lib.hid (HB1.out.trans (hb.mono HB1.out.size))
    clear hb
    go_wp2_with (first | (refine wpList_store_blk rfl 41 _ _ rfl (R2.out) rfl rfl sz121 (fun _ _ => rfl) ?_) | fail)
    exact post_blk_tmp rfl (R2.out.setRow _) rfl Try.underlying41 sz121 rfl ⟨by rw [HK.out]; rfl, below_setRow HB2.out (by (focus (first | omega | (simp; done) | (simp; omega)))) _⟩
set_option maxHeartbeats 1000000 in
theorem iKeepTable_any (o : Option Addr) (n c : Nat) (x : Nat → Nat → Int) (hn : n ≤ 1048576) (z : Int) (w : World) (h : PoolAt w o n x) : Calls Try.prog 36 #[poolV o n c, .int .i64 z] w fun e w' => e = .returned (.tuple #[.agg (row 121 (I (keepV n x z))), .bool (keepB n x z)]) ∧ Below w.heap.size w w' := by
  have H := Lib.hid h; clear h
  cases g1 : poolB n x
  · have HG := Lib.hid (show keepB n x z = false by unfold keepB; rw [g1]; rfl)
    rw [HG.out]
    have HV := Lib.hid (show keepV n x z = fun _ => 0 by unfold keepV; rw [HG.out]; rfl)
    rw [HV.out]
    go_enter Try.func36, Try.ntmps36
    go_wp2_with (first | (refine wpList_alloc_blk rfl 41 rfl zero121 ?_) | fail)
    go_at_call 78
    refine (isPool_any o n c x hn _ (H.out.alloc _)).mono ?_
    rintro e w1 ⟨rfl, hb1⟩
    have HB1 := Lib.hid hb1; clear hb1
    have R1 := Lib.hid (show Blk w1 w.heap.size 121 41 (I fun _ => 0) from (Blk.new _ _ _ _).below HB1.out (by simp))
    have HB1 := Lib.hid (((Below.refl w.heap.size w).alloc (by omega) _).trans (HB1.out.mono (by simp)))
    rw [g1]
    go_wp2_with (first | (refine wpList_build0_blk rfl 41 rfl built121 ?_) | (refine wpList_store_blk rfl 41 _ _ rfl (R1.out) rfl rfl sz121 (fun _ _ => rfl) ?_) | fail)
    exact post_blk_tmp rfl (R1.out.setRow _) rfl Try.underlying41 sz121 rfl ⟨rfl, below_setRow HB1.out (by (focus (first | omega | (simp; done) | (simp; omega)))) _⟩
  · cases g2 : (decide ((1 : Int) ≤ z) && decide (z ≤ (n : Int)))
    · have HG := Lib.hid (show keepB n x z = false by unfold keepB; rw [g1, g2]; rfl)
      have HZ := Lib.hid g2
      clear g2
      rw [HG.out]
      have HV := Lib.hid (show keepV n x z = fun _ => 0 by unfold keepV; rw [HG.out]; rfl)
      rw [HV.out]
      go_enter Try.func36, Try.ntmps36
      go_wp2_with (first | (refine wpList_alloc_blk rfl 41 rfl zero121 ?_) | fail)
      go_at_call 78
      refine (isPool_any o n c x hn _ (H.out.alloc _)).mono ?_
      rintro e w1 ⟨rfl, hb1⟩
      have HB1 := Lib.hid hb1; clear hb1
      have R1 := Lib.hid (show Blk w1 w.heap.size 121 41 (I fun _ => 0) from (Blk.new _ _ _ _).below HB1.out (by simp))
      have HB1 := Lib.hid (((Below.refl w.heap.size w).alloc (by omega) _).trans (HB1.out.mono (by simp)))
      rw [g1]
      go_wp2_with fail
      go_at_call 83
      refine (isCount_any o n c hn _ _).mono ?_
      rintro e w' ⟨rfl, rfl⟩
      rw [HZ.out]
      go_wp2_with (first | (refine wpList_build0_blk rfl 41 rfl built121 ?_) | (refine wpList_store_blk rfl 41 _ _ rfl (R1.out) rfl rfl sz121 (fun _ _ => rfl) ?_) | fail)
      exact post_blk_tmp rfl (R1.out.setRow _) rfl Try.underlying41 sz121 rfl ⟨rfl, below_setRow HB1.out (by (focus (first | omega | (simp; done) | (simp; omega)))) _⟩
    · have HG := Lib.hid (show keepB n x z = true by unfold keepB; rw [g1, g2]; rfl)
      have HZ := Lib.hid g2
      have G1 := Lib.hid g1
      obtain ⟨n1, n4⟩ := pool_le g1
      obtain ⟨k, hk, h1, hk2⟩ := keepB_nat g2
      have HK := Lib.hid (show z.toNat = k by omega)
      subst hk
      clear g2
      rw [HG.out]
      have HV := Lib.hid (show keepV n x (k : Int) = cntF (keptI n x ((k : Int).toNat)) (sixN n) by unfold keepV; rw [HG.out]; rfl)
      rw [HV.out]
      go_enter Try.func36, Try.ntmps36
      go_wp2_with (first | (refine wpList_alloc_blk rfl 41 rfl zero121 ?_) | fail)
      go_at_call 78
      refine (isPool_any o n c x hn _ (H.out.alloc _)).mono ?_
      rintro e w1 ⟨rfl, hb1⟩
      have HB1 := Lib.hid hb1; clear hb1
      have R1 := Lib.hid (show Blk w1 w.heap.size 121 41 (I fun _ => 0) from (Blk.new _ _ _ _).below HB1.out (by simp))
      have P1 := Lib.hid ((H.out.alloc _).below HB1.out)
      have HB1 := Lib.hid (((Below.refl w.heap.size w).alloc (by omega) _).trans (HB1.out.mono (by simp)))
      rw [g1]
      clear g1
      go_wp2_with fail
      go_at_call 83
      refine (isCount_any o n c hn _ _).mono ?_
      rintro e w' ⟨rfl, rfl⟩
      rw [HZ.out]
      go_wp2_with fail
      go_at_call 88
      refine (kept_any o n c x G1.out k hk2 _ P1.out).mono ?_
      rintro e w2 ⟨rfl, hb⟩
      have R2 := Lib.hid (R1.out.below hb R1.out.lt)
      have HB2 := Lib.hid (HB1.out.trans (hb.mono HB1.out.size))
      clear hb
      go_wp2_with (first | (refine wpList_store_blk rfl 41 _ _ rfl (R2.out) rfl rfl sz121 (fun _ _ => rfl) ?_) | fail)
      exact post_blk_tmp rfl (R2.out.setRow _) rfl Try.underlying41 sz121 rfl ⟨by rw [HK.out]; rfl, below_setRow HB2.out (by (focus (first | omega | (simp; done) | (simp; omega)))) _⟩
noncomputable def dropV (n : Nat) (x : Nat → Nat → Int) (z : Int) : Nat → Int := if dropB n x z then cntF (keptI n x (n - z.toNat)) (sixN n) else fun _ => 0
set_option maxHeartbeats 1000000 in
theorem sDropTable_any (o : Option Addr) (n c : Nat) (x : Nat → Nat → Int) (hn : n ≤ 1048576) (z : Int) (w : World) (h : PoolAt w o n x) : Calls Try.prog 32 #[poolV o n c, .int .i64 z] w fun e w' => e = .returned (.tuple #[.agg (row 121 (I (dropV n x z))), .bool (dropB n x z)]) ∧ Below w.heap.size w w' := by
  have H := Lib.hid h; clear h
  cases g1 : poolB n x
  · have HG := Lib.hid (show dropB n x z = false by unfold dropB; rw [g1]; rfl)
    rw [HG.out]
    have HV := Lib.hid (show dropV n x z = fun _ => 0 by unfold dropV; rw [HG.out]; rfl)
    rw [HV.out]
    go_enter Try.func32, Try.ntmps32
    go_wp2_with (first | (refine wpList_alloc_blk rfl 41 rfl zero121 ?_) | fail)
    go_at_call 75
    refine (l2Pool_any o n c x hn _ (H.out.alloc _)).mono ?_
    rintro e w1 ⟨rfl, hb1⟩
    have HB1 := Lib.hid hb1; clear hb1
    have R1 := Lib.hid (show Blk w1 w.heap.size 121 41 (I fun _ => 0) from (Blk.new _ _ _ _).below HB1.out (by simp))
    have HB1 := Lib.hid (((Below.refl w.heap.size w).alloc (by omega) _).trans (HB1.out.mono (by simp)))
    rw [g1]
    go_wp2_with (first | (refine wpList_build0_blk rfl 41 rfl built121 ?_) | (refine wpList_store_blk rfl 41 _ _ rfl (R1.out) rfl rfl sz121 (fun _ _ => rfl) ?_) | fail)
    exact post_blk_tmp rfl (R1.out.setRow _) rfl Try.underlying41 sz121 rfl ⟨rfl, below_setRow HB1.out (by (focus (first | omega | (simp; done) | (simp; omega)))) _⟩
  · cases g2 : (decide ((0 : Int) ≤ z) && decide (z ≤ (n : Int) - 1))
    · have HG := Lib.hid (show dropB n x z = false by unfold dropB; rw [g1, g2]; rfl)
      have HZ := Lib.hid g2
      clear g2
      rw [HG.out]
      have HV := Lib.hid (show dropV n x z = fun _ => 0 by unfold dropV; rw [HG.out]; rfl)
      rw [HV.out]
      go_enter Try.func32, Try.ntmps32
      go_wp2_with (first | (refine wpList_alloc_blk rfl 41 rfl zero121 ?_) | fail)
      go_at_call 75
      refine (l2Pool_any o n c x hn _ (H.out.alloc _)).mono ?_
      rintro e w1 ⟨rfl, hb1⟩
      have HB1 := Lib.hid hb1; clear hb1
      have R1 := Lib.hid (show Blk w1 w.heap.size 121 41 (I fun _ => 0) from (Blk.new _ _ _ _).below HB1.out (by simp))
      have HB1 := Lib.hid (((Below.refl w.heap.size w).alloc (by omega) _).trans (HB1.out.mono (by simp)))
      rw [g1]
      go_wp2_with fail
      go_at_call 85
      refine (in_any _ _ _ _).mono ?_
      rintro e w' ⟨rfl, rfl⟩
      rw [HZ.out]
      go_wp2_with (first | (refine wpList_build0_blk rfl 41 rfl built121 ?_) | (refine wpList_store_blk rfl 41 _ _ rfl (R1.out) rfl rfl sz121 (fun _ _ => rfl) ?_) | fail)
      exact post_blk_tmp rfl (R1.out.setRow _) rfl Try.underlying41 sz121 rfl ⟨rfl, below_setRow HB1.out (by (focus (first | omega | (simp; done) | (simp; omega)))) _⟩
    · have HG := Lib.hid (show dropB n x z = true by unfold dropB; rw [g1, g2]; rfl)
      have HZ := Lib.hid g2
      have G1 := Lib.hid g1
      obtain ⟨n1, n4⟩ := pool_le g1
      obtain ⟨k, hk, h1, hk2⟩ := dropB_nat g2
      have HK := Lib.hid (show n - z.toNat = k by omega)
      clear g2
      rw [HG.out]
      have HV := Lib.hid (show dropV n x z = cntF (keptI n x (n - z.toNat)) (sixN n) by unfold dropV; rw [HG.out]; rfl)
      rw [HV.out]
      go_enter Try.func32, Try.ntmps32
      go_wp2_with (first | (refine wpList_alloc_blk rfl 41 rfl zero121 ?_) | fail)
      go_at_call 75
      refine (l2Pool_any o n c x hn _ (H.out.alloc _)).mono ?_
      rintro e w1 ⟨rfl, hb1⟩
      have HB1 := Lib.hid hb1; clear hb1
      have R1 := Lib.hid (show Blk w1 w.heap.size 121 41 (I fun _ => 0) from (Blk.new _ _ _ _).below HB1.out (by simp))
      have P1 := Lib.hid ((H.out.alloc _).below HB1.out)
      have HB1 := Lib.hid (((Below.refl w.heap.size w).alloc (by omega) _).trans (HB1.out.mono (by simp)))
      rw [g1]
      clear g1
      go_wp2_with fail
      go_at_call 85
      refine (in_any _ _ _ _).mono ?_
      rintro e w' ⟨rfl, rfl⟩
      rw [HZ.out]
      go_wp2_with fail
      go_at_call 86
      refine (l4Kept_any o n c x hn G1.out k hk2 _ P1.out).mono ?_
      rintro e w2 ⟨rfl, hb⟩
      have R2 := Lib.hid (R1.out.below hb R1.out.lt)
      have HB2 := Lib.hid (HB1.out.trans (hb.mono HB1.out.size))
      clear hb
      go_wp2_with (first | (refine wpList_store_blk rfl 41 _ _ rfl (R2.out) rfl rfl sz121 (fun _ _ => rfl) ?_) | fail)
      exact post_blk_tmp rfl (R2.out.setRow _) rfl Try.underlying41 sz121 rfl ⟨by rw [HK.out]; rfl, below_setRow HB2.out (by (focus (first | omega | (simp; done) | (simp; omega)))) _⟩
set_option maxHeartbeats 1000000 in
theorem iDropTable_any (o : Option Addr) (n c : Nat) (x : Nat → Nat → Int) (hn : n ≤ 1048576) (z : Int) (w : World) (h : PoolAt w o n x) : Calls Try.prog 33 #[poolV o n c, .int .i64 z] w fun e w' => e = .returned (.tuple #[.agg (row 121 (I (dropV n x z))), .bool (dropB n x z)]) ∧ Below w.heap.size w w' := by
  have H := Lib.hid h; clear h
  cases g1 : poolB n x
  · have HG := Lib.hid (show dropB n x z = false by unfold dropB; rw [g1]; rfl)
    rw [HG.out]
    have HV := Lib.hid (show dropV n x z = fun _ => 0 by unfold dropV; rw [HG.out]; rfl)
    rw [HV.out]
    go_enter Try.func33, Try.ntmps33
    go_wp2_with (first | (refine wpList_alloc_blk rfl 41 rfl zero121 ?_) | fail)
    go_at_call 78
    refine (isPool_any o n c x hn _ (H.out.alloc _)).mono ?_
    rintro e w1 ⟨rfl, hb1⟩
    have HB1 := Lib.hid hb1; clear hb1
    have R1 := Lib.hid (show Blk w1 w.heap.size 121 41 (I fun _ => 0) from (Blk.new _ _ _ _).below HB1.out (by simp))
    have HB1 := Lib.hid (((Below.refl w.heap.size w).alloc (by omega) _).trans (HB1.out.mono (by simp)))
    rw [g1]
    go_wp2_with (first | (refine wpList_build0_blk rfl 41 rfl built121 ?_) | (refine wpList_store_blk rfl 41 _ _ rfl (R1.out) rfl rfl sz121 (fun _ _ => rfl) ?_) | fail)
    exact post_blk_tmp rfl (R1.out.setRow _) rfl Try.underlying41 sz121 rfl ⟨rfl, below_setRow HB1.out (by (focus (first | omega | (simp; done) | (simp; omega)))) _⟩
  · cases g2 : (decide ((0 : Int) ≤ z) && decide (z ≤ (n : Int) - 1))
    · have HG := Lib.hid (show dropB n x z = false by unfold dropB; rw [g1, g2]; rfl)
      have HZ := Lib.hid g2
      clear g2
      rw [HG.out]
      have HV := Lib.hid (show dropV n x z = fun _ => 0 by unfold dropV; rw [HG.out]; rfl)
      rw [HV.out]
      go_enter Try.func33, Try.ntmps33
      go_wp2_with (first | (refine wpList_alloc_blk rfl 41 rfl zero121 ?_) | fail)
      go_at_call 78
      refine (isPool_any o n c x hn _ (H.out.alloc _)).mono ?_
      rintro e w1 ⟨rfl, hb1⟩
      have HB1 := Lib.hid hb1; clear hb1
      have R1 := Lib.hid (show Blk w1 w.heap.size 121 41 (I fun _ => 0) from (Blk.new _ _ _ _).below HB1.out (by simp))
      have HB1 := Lib.hid (((Below.refl w.heap.size w).alloc (by omega) _).trans (HB1.out.mono (by simp)))
      rw [g1]
      go_wp2_with fail
      go_at_call 87
      refine (within_any _ _ _ _).mono ?_
      rintro e w' ⟨rfl, rfl⟩
      rw [HZ.out]
      go_wp2_with (first | (refine wpList_build0_blk rfl 41 rfl built121 ?_) | (refine wpList_store_blk rfl 41 _ _ rfl (R1.out) rfl rfl sz121 (fun _ _ => rfl) ?_) | fail)
      exact post_blk_tmp rfl (R1.out.setRow _) rfl Try.underlying41 sz121 rfl ⟨rfl, below_setRow HB1.out (by (focus (first | omega | (simp; done) | (simp; omega)))) _⟩
    · have HG := Lib.hid (show dropB n x z = true by unfold dropB; rw [g1, g2]; rfl)
      have HZ := Lib.hid g2
      have G1 := Lib.hid g1
      obtain ⟨n1, n4⟩ := pool_le g1
      obtain ⟨k, hk, h1, hk2⟩ := dropB_nat g2
      have HK := Lib.hid (show n - z.toNat = k by omega)
      clear g2
      rw [HG.out]
      have HV := Lib.hid (show dropV n x z = cntF (keptI n x (n - z.toNat)) (sixN n) by unfold dropV; rw [HG.out]; rfl)
      rw [HV.out]
      go_enter Try.func33, Try.ntmps33
      go_wp2_with (first | (refine wpList_alloc_blk rfl 41 rfl zero121 ?_) | fail)
      go_at_call 78
      refine (isPool_any o n c x hn _ (H.out.alloc _)).mono ?_
      rintro e w1 ⟨rfl, hb1⟩
      have HB1 := Lib.hid hb1; clear hb1
      have R1 := Lib.hid (show Blk w1 w.heap.size 121 41 (I fun _ => 0) from (Blk.new _ _ _ _).below HB1.out (by simp))
      have P1 := Lib.hid ((H.out.alloc _).below HB1.out)
      have HB1 := Lib.hid (((Below.refl w.heap.size w).alloc (by omega) _).trans (HB1.out.mono (by simp)))
      rw [g1]
      clear g1
      go_wp2_with fail
      go_at_call 87
      refine (within_any _ _ _ _).mono ?_
      rintro e w' ⟨rfl, rfl⟩
      rw [HZ.out]
      go_wp2_with fail
      go_at_call 88
      refine (kept_any o n c x G1.out k hk2 _ P1.out).mono ?_
      rintro e w2 ⟨rfl, hb⟩
      have R2 := Lib.hid (R1.out.below hb R1.out.lt)
      have HB2 := Lib.hid (HB1.out.trans (hb.mono HB1.out.size))
      clear hb
      go_wp2_with (first | (refine wpList_store_blk rfl 41 _ _ rfl (R2.out) rfl rfl sz121 (fun _ _ => rfl) ?_) | fail)
      exact post_blk_tmp rfl (R2.out.setRow _) rfl Try.underlying41 sz121 rfl ⟨by rw [HK.out]; rfl, below_setRow HB2.out (by (focus (first | omega | (simp; done) | (simp; omega)))) _⟩
end Go.Proofs.Ytlgpejiepogopaa
