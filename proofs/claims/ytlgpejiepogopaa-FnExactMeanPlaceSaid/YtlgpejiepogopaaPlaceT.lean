/- Written by gen_keeps.py. -/
import Derived.Test.YtlgpejiepogopaaKeeps
import Derived.Test.YtlgpejiepogopaaPlaced
set_option linter.unusedVariables false
set_option linter.unusedSimpArgs false
set_option linter.unusedSectionVars false
namespace Go.Proofs.Ytlgpejiepogopaa
open Go.RowKit
noncomputable def placeV (n : Nat) (x : Nat → Nat → Int) (z : Int) : Nat → Int := if keepB n x z then cntF (placeI n x (z.toNat)) (sixN n) else fun _ => 0
set_option maxHeartbeats 1000000 in
theorem sPlaceTable_any (o : Option Addr) (n c : Nat) (x : Nat → Nat → Int) (hn : n ≤ 1048576) (z : Int) (w : World) (h : PoolAt w o n x) : Calls Try.prog 29 #[poolV o n c, .int .i64 z] w fun e w' => e = .returned (.tuple #[.agg (row 31 (I (placeV n x z))), .bool (keepB n x z)]) ∧ Below w.heap.size w w' := by
  have H := Lib.hid h; clear h
  cases g : keepB n x z
  · skip
    have HV := Lib.hid (show placeV n x z = fun _ => 0 by unfold placeV; rw [g]; rfl)
    rw [HV.out]
    go_enter Try.func29, Try.ntmps29
    go_wp2_with (first | (refine wpList_alloc_blk rfl 37 rfl zero31 ?_) | fail)
    go_at_call 81
    refine (l4Keeps_any o n c x hn z _ (H.out.alloc _)).mono ?_
    rintro e w1 ⟨rfl, hb1⟩
    have HB1 := Lib.hid hb1; clear hb1
    have R1 := Lib.hid (show Blk w1 w.heap.size 31 37 (I fun _ => 0) from (Blk.new _ _ _ _).below HB1.out (by simp))
    have HB1 := Lib.hid (((Below.refl w.heap.size w).alloc (by omega) _).trans (HB1.out.mono (by simp)))
    rw [g]
    go_wp2_with (first | (refine wpList_build0_blk rfl 37 rfl built31 ?_) | (refine wpList_store_blk rfl 37 _ _ rfl (R1.out) rfl rfl sz31 (fun _ _ => rfl) ?_) | fail)
    exact post_blk_tmp rfl (R1.out.setRow _) rfl Try.underlying37 sz31 rfl ⟨rfl, below_setRow HB1.out (by (focus (first | omega | (simp; done) | (simp; omega)))) _⟩
  · have gg : (poolB n x && (decide ((1 : Int) ≤ z) && decide (z ≤ (n : Int)))) = true := g
    have g1 : poolB n x = true := (Bool.and_eq_true _ _ ▸ gg).1
    have g2 := (Bool.and_eq_true _ _ ▸ gg).2
    obtain ⟨k, hk, h1, hk2⟩ := keepB_nat g2
    have HK := Lib.hid (show z.toNat = k by omega)
    subst hk
    have G1 := Lib.hid g1
    clear g1 g2 gg
    have HV := Lib.hid (show placeV n x (k : Int) = cntF (placeI n x ((k : Int).toNat)) (sixN n) by unfold placeV; rw [g]; rfl)
    rw [HV.out]
    go_enter Try.func29, Try.ntmps29
    go_wp2_with (first | (refine wpList_alloc_blk rfl 37 rfl zero31 ?_) | fail)
    go_at_call 81
    refine (l4Keeps_any o n c x hn (k : Int) _ (H.out.alloc _)).mono ?_
    rintro e w1 ⟨rfl, hb1⟩
    have HB1 := Lib.hid hb1; clear hb1
    have R1 := Lib.hid (show Blk w1 w.heap.size 31 37 (I fun _ => 0) from (Blk.new _ _ _ _).below HB1.out (by simp))
    have P1 := Lib.hid ((H.out.alloc _).below HB1.out)
    have HB1 := Lib.hid (((Below.refl w.heap.size w).alloc (by omega) _).trans (HB1.out.mono (by simp)))
    rw [g]
    clear g
    go_wp2_with fail
    go_at_call 82
    refine (l4At_any o n c x hn G1.out k h1 hk2 _ P1.out).mono ?_
    rintro e w2 ⟨rfl, hb⟩
    have R2 := Lib.hid (R1.out.below hb R1.out.lt)
    have HB2 := Lib.hid (HB1.out.trans (hb.mono HB1.out.size))
    clear hb
    go_wp2_with (first | (refine wpList_store_blk rfl 37 _ _ rfl (R2.out) rfl rfl sz31 (fun _ _ => rfl) ?_) | fail)
    exact post_blk_tmp rfl (R2.out.setRow _) rfl Try.underlying37 sz31 rfl ⟨by rw [HK.out]; rfl, below_setRow HB2.out (by (focus (first | omega | (simp; done) | (simp; omega)))) _⟩
set_option maxHeartbeats 1000000 in
theorem iPlaceTable_any (o : Option Addr) (n c : Nat) (x : Nat → Nat → Int) (hn : n ≤ 1048576) (z : Int) (w : World) (h : PoolAt w o n x) : Calls Try.prog 30 #[poolV o n c, .int .i64 z] w fun e w' => e = .returned (.tuple #[.agg (row 31 (I (placeV n x z))), .bool (keepB n x z)]) ∧ Below w.heap.size w w' := by
  have H := Lib.hid h; clear h
  cases g1 : poolB n x
  · have HG := Lib.hid (show keepB n x z = false by unfold keepB; rw [g1]; rfl)
    rw [HG.out]
    have HV := Lib.hid (show placeV n x z = fun _ => 0 by unfold placeV; rw [HG.out]; rfl)
    rw [HV.out]
    go_enter Try.func30, Try.ntmps30
    go_wp2_with (first | (refine wpList_alloc_blk rfl 37 rfl zero31 ?_) | fail)
    go_at_call 78
    refine (isPool_any o n c x hn _ (H.out.alloc _)).mono ?_
    rintro e w1 ⟨rfl, hb1⟩
    have HB1 := Lib.hid hb1; clear hb1
    have R1 := Lib.hid (show Blk w1 w.heap.size 31 37 (I fun _ => 0) from (Blk.new _ _ _ _).below HB1.out (by simp))
    have HB1 := Lib.hid (((Below.refl w.heap.size w).alloc (by omega) _).trans (HB1.out.mono (by simp)))
    rw [g1]
    go_wp2_with (first | (refine wpList_build0_blk rfl 37 rfl built31 ?_) | (refine wpList_store_blk rfl 37 _ _ rfl (R1.out) rfl rfl sz31 (fun _ _ => rfl) ?_) | fail)
    exact post_blk_tmp rfl (R1.out.setRow _) rfl Try.underlying37 sz31 rfl ⟨rfl, below_setRow HB1.out (by (focus (first | omega | (simp; done) | (simp; omega)))) _⟩
  · cases g2 : (decide ((1 : Int) ≤ z) && decide (z ≤ (n : Int)))
    · have HG := Lib.hid (show keepB n x z = false by unfold keepB; rw [g1, g2]; rfl)
      have HZ := Lib.hid g2
      clear g2
      rw [HG.out]
      have HV := Lib.hid (show placeV n x z = fun _ => 0 by unfold placeV; rw [HG.out]; rfl)
      rw [HV.out]
      go_enter Try.func30, Try.ntmps30
      go_wp2_with (first | (refine wpList_alloc_blk rfl 37 rfl zero31 ?_) | fail)
      go_at_call 78
      refine (isPool_any o n c x hn _ (H.out.alloc _)).mono ?_
      rintro e w1 ⟨rfl, hb1⟩
      have HB1 := Lib.hid hb1; clear hb1
      have R1 := Lib.hid (show Blk w1 w.heap.size 31 37 (I fun _ => 0) from (Blk.new _ _ _ _).below HB1.out (by simp))
      have HB1 := Lib.hid (((Below.refl w.heap.size w).alloc (by omega) _).trans (HB1.out.mono (by simp)))
      rw [g1]
      go_wp2_with fail
      go_at_call 83
      refine (isCount_any o n c hn _ _).mono ?_
      rintro e w' ⟨rfl, rfl⟩
      rw [HZ.out]
      go_wp2_with (first | (refine wpList_build0_blk rfl 37 rfl built31 ?_) | (refine wpList_store_blk rfl 37 _ _ rfl (R1.out) rfl rfl sz31 (fun _ _ => rfl) ?_) | fail)
      exact post_blk_tmp rfl (R1.out.setRow _) rfl Try.underlying37 sz31 rfl ⟨rfl, below_setRow HB1.out (by (focus (first | omega | (simp; done) | (simp; omega)))) _⟩
    · have HG := Lib.hid (show keepB n x z = true by unfold keepB; rw [g1, g2]; rfl)
      have HZ := Lib.hid g2
      have G1 := Lib.hid g1
      obtain ⟨n1, n4⟩ := pool_le g1
      obtain ⟨k, hk, h1, hk2⟩ := keepB_nat g2
      have HK := Lib.hid (show z.toNat = k by omega)
      subst hk
      clear g2
      rw [HG.out]
      have HV := Lib.hid (show placeV n x (k : Int) = cntF (placeI n x ((k : Int).toNat)) (sixN n) by unfold placeV; rw [HG.out]; rfl)
      rw [HV.out]
      go_enter Try.func30, Try.ntmps30
      go_wp2_with (first | (refine wpList_alloc_blk rfl 37 rfl zero31 ?_) | fail)
      go_at_call 78
      refine (isPool_any o n c x hn _ (H.out.alloc _)).mono ?_
      rintro e w1 ⟨rfl, hb1⟩
      have HB1 := Lib.hid hb1; clear hb1
      have R1 := Lib.hid (show Blk w1 w.heap.size 31 37 (I fun _ => 0) from (Blk.new _ _ _ _).below HB1.out (by simp))
      have P1 := Lib.hid ((H.out.alloc _).below HB1.out)
      have HB1 := Lib.hid (((Below.refl w.heap.size w).alloc (by omega) _).trans (HB1.out.mono (by simp)))
      rw [g1]
      clear g1
      go_wp2_with fail
      go_at_call 83
      refine (isCount_any o n c hn _ _).mono ?_
      rintro e w' ⟨rfl, rfl⟩
      rw [HZ.out]
      go_wp2_with fail
      go_at_call 84
      refine (placed_any o n c x G1.out k h1 hk2 _ P1.out).mono ?_
      rintro e w2 ⟨rfl, hb⟩
      have R2 := Lib.hid (R1.out.below hb R1.out.lt)
      have HB2 := Lib.hid (HB1.out.trans (hb.mono HB1.out.size))
      clear hb
      go_wp2_with (first | (refine wpList_store_blk rfl 37 _ _ rfl (R2.out) rfl rfl sz31 (fun _ _ => rfl) ?_) | fail)
      exact post_blk_tmp rfl (R2.out.setRow _) rfl Try.underlying37 sz31 rfl ⟨by rw [HK.out]; rfl, below_setRow HB2.out (by (focus (first | omega | (simp; done) | (simp; omega)))) _⟩
end Go.Proofs.Ytlgpejiepogopaa
