/- PatternOf, both sides. Written by gen_patt.py. -/
import Derived.Test.YtbfhfadfjgfmaaaPatM
import Derived.Test.YtbfhfadfjgfmaaaRoll
import Derived.Test.YtbfhfadfjgfmaaaBounds
set_option linter.unusedVariables false
set_option linter.unusedSimpArgs false
set_option linter.unusedSectionVars false
namespace Go.Proofs.Ytbfhfadfjgfmaaa
open Go.RowKit
theorem sRollAt_yes (o : Option Addr) (n c : Nat) (x : Nat → Nat → Int) (hn : n ≤ 1048576) (z : Int) (w : World) (h : PoolAt w o n x) (g1 : poolB n x = true) (g2 : outB n z = true) : Calls Try.prog 47 #[poolV o n c, .int .i64 z] w fun e w' => ∃ g, e = .returned (.tuple #[.slice (some ⟨g, 0, none⟩) n n, .bool true]) ∧ Blk w' g n 3 (I (rollF n x z.toNat)) ∧ Below w.heap.size w w' := by
  have H := Lib.hid h; clear h
  obtain ⟨n1, n4⟩ := pool_le g1
  have n8 : n ≤ 8 := by omega
  obtain ⟨s1, s2⟩ := sixN_le n n8
  have s3 := sixN_small n4
  have l1 : 0 ≤ (sixN n : Int) - 1 := by omega
  have l2 : (sixN n : Int) - 1 ≤ 1296 := by omega
  have HZ := Lib.hid (show (decide ((0 : Int) ≤ z) && decide (z ≤ (sixN n : Int) - 1)) = true from g2)
  have gz := HZ.out
  simp only [Bool.and_eq_true, decide_eq_true_eq] at gz
  obtain ⟨z1, z2⟩ := gz
  clear g2
  go_enter Try.func47, Try.ntmps47
  go_wp2_with fail
  go_at_call 38
  refine (l2Pool_any o n c x hn _ H.out).mono ?_
  rintro e w1 ⟨rfl, hb1⟩
  have HB1 := Lib.hid hb1; clear hb1
  rw [g1]
  go_wp2_with fail
  go_at_call 53
  refine (l2All_any n n8 _).mono ?_
  rintro e w' ⟨rfl, rfl⟩
  go_wp2_with fail
  go_at_call 84
  refine (in_any _ _ _ _).mono ?_
  rintro e w' ⟨rfl, rfl⟩
  rw [HZ.out]
  obtain ⟨k, hk⟩ := Int.eq_ofNat_of_zero_le z1
  subst hk
  go_wp2_with fail
  go_at_call 54
  refine (l2Roll_any o n c x k n1 n4 (by omega) _ (H.out.below HB1.out)).mono ?_
  rintro e w2 ⟨rfl, hR, hb2⟩
  have R2 := Lib.hid hR
  have HB2 := Lib.hid (HB1.out.trans (hb2.mono HB1.out.size))
  have HS := Lib.hid HB1.out.size
  clear hR hb2
  go_wp2
  go_ret2
  exact ⟨_, rfl, R2.out, HB2.out⟩
noncomputable def patV (n : Nat) (x : Nat → Nat → Int) (z : Int) : Nat → Int := if poolB n x && outB n z then patF (sortedF n x z.toNat) n else fun _ => 0
theorem pat_no {n : Nat} {x : Nat → Nat → Int} {z : Int} (h : (poolB n x && outB n z) = false) : patV n x z = fun _ => 0 := by unfold patV; rw [h]; rfl
theorem pat_yes {n : Nat} {x : Nat → Nat → Int} {z : Int} (h : (poolB n x && outB n z) = true) : patV n x z = patF (plF (rollF n x z.toNat) n) n := by unfold patV; rw [h]; rfl
set_option maxHeartbeats 1000000 in
theorem sPatternOf_any (o : Option Addr) (n c : Nat) (x : Nat → Nat → Int) (hn : n ≤ 1048576) (z : Int) (w : World) (h : PoolAt w o n x) : Calls Try.prog 17 #[poolV o n c, .int .i64 z] w fun e w' => e = .returned (.tuple #[.agg (row 4 (I (patV n x z))), .bool (poolB n x && outB n z)]) ∧ Below w.heap.size w w' := by
  have H := Lib.hid h; clear h
  cases g : (poolB n x && outB n z)
  · rw [pat_no g]
    have G := Lib.hid g; clear g
    go_enter Try.func17, Try.ntmps17
    go_wp2_with (first | (refine wpList_alloc_blk rfl 29 rfl zero4 ?_) | fail)
    go_at_call 47
    refine (sRollAt_any o n c x hn z _ (H.out.alloc _)).mono ?_
    rintro e w1 ⟨A, cp, rfl, -, hb⟩
    rw [G.out]
    have R1 := Lib.hid (show Blk w1 w.heap.size 4 29 (I fun _ => 0) from (Blk.new _ _ _ _).below hb (by simp))
    have HB1 := Lib.hid (((Below.refl w.heap.size w).alloc (by omega) _).trans (hb.mono (by simp)))
    clear hb
    go_wp2_with (first | (refine wpList_build0_blk rfl 29 rfl built4 ?_) | (refine wpList_store_blk rfl 29 _ _ rfl (R1.out) rfl rfl sz4 (fun _ _ => rfl) ?_) | fail)
    exact post_blk_tmp rfl (R1.out.setRow _) rfl Try.underlying29 sz4 rfl ⟨rfl, below_setRow HB1.out (by (focus (first | omega | (simp; done) | (simp; omega)))) _⟩
  · rw [pat_yes g]
    simp only [Bool.and_eq_true] at g
    obtain ⟨g1, g2⟩ := g
    obtain ⟨n1, n4⟩ := pool_le g1
    have G1 := Lib.hid g1
    have G2 := Lib.hid g2
    clear g1 g2
    go_enter Try.func17, Try.ntmps17
    go_wp2_with (first | (refine wpList_alloc_blk rfl 29 rfl zero4 ?_) | fail)
    go_at_call 47
    refine (sRollAt_yes o n c x hn z _ (H.out.alloc _) G1.out G2.out).mono ?_
    rintro e w1 ⟨g, rfl, hS, hb⟩
    have S1 := Lib.hid hS
    have R1 := Lib.hid (show Blk w1 w.heap.size 4 29 (I fun _ => 0) from (Blk.new _ _ _ _).below hb (by simp))
    have HB1 := Lib.hid (((Below.refl w.heap.size w).alloc (by omega) _).trans (hb.mono (by simp)))
    clear hb hS
    go_wp2_with fail
    go_at_call 48
    refine (l4Pattern_any g n _ n4 _ S1.out).mono ?_
    rintro e w2 ⟨rfl, hb⟩
    have R2 := Lib.hid (R1.out.below hb R1.out.lt)
    have HB2 := Lib.hid (HB1.out.trans (hb.mono HB1.out.size))
    clear hb
    go_wp2_with (first | (refine wpList_store_blk rfl 29 _ _ rfl (R2.out) rfl rfl sz4 (fun _ _ => rfl) ?_) | fail)
    exact post_blk_tmp rfl (R2.out.setRow _) rfl Try.underlying29 sz4 rfl ⟨rfl, below_setRow HB2.out (by (focus (first | omega | (simp; done) | (simp; omega)))) _⟩
set_option maxHeartbeats 1000000 in
theorem iPatternOf_any (o : Option Addr) (n c : Nat) (x : Nat → Nat → Int) (hn : n ≤ 1048576) (z : Int) (w : World) (h : PoolAt w o n x) : Calls Try.prog 18 #[poolV o n c, .int .i64 z] w fun e w' => e = .returned (.tuple #[.agg (row 4 (I (patV n x z))), .bool (poolB n x && outB n z)]) ∧ Below w.heap.size w w' := by
  have H := Lib.hid h; clear h
  cases g1 : poolB n x
  · rw [pat_no (by rw [g1]; rfl)]
    go_enter Try.func18, Try.ntmps18
    go_wp2_with (first | (refine wpList_alloc_blk rfl 29 rfl zero4 ?_) | fail)
    go_at_call 42
    refine (isPool_any o n c x hn _ (H.out.alloc _)).mono ?_
    rintro e w1 ⟨rfl, hb1⟩
    have HB1 := Lib.hid hb1; clear hb1
    have R1 := Lib.hid (show Blk w1 w.heap.size 4 29 (I fun _ => 0) from (Blk.new _ _ _ _).below HB1.out (by simp))
    have HB1 := Lib.hid (((Below.refl w.heap.size w).alloc (by omega) _).trans (HB1.out.mono (by simp)))
    rw [g1]
    go_wp2_with (first | (refine wpList_build0_blk rfl 29 rfl built4 ?_) | (refine wpList_store_blk rfl 29 _ _ rfl (R1.out) rfl rfl sz4 (fun _ _ => rfl) ?_) | fail)
    exact post_blk_tmp rfl (R1.out.setRow _) rfl Try.underlying29 sz4 rfl ⟨rfl, below_setRow HB1.out (by (focus (first | omega | (simp; done) | (simp; omega)))) _⟩
  · obtain ⟨n1, n4⟩ := pool_le g1
    have n8 : n ≤ 8 := by omega
    obtain ⟨s1, s2⟩ := sixN_le n n8
    have s3 := sixN_small n4
    cases g2 : outB n z
    · rw [pat_no (by rw [g1, g2]; rfl)]
      have HZ := Lib.hid (show (decide ((0 : Int) ≤ z) && decide (z ≤ (sixN n : Int) - 1)) = false from g2)
      clear g2
      go_enter Try.func18, Try.ntmps18
      go_wp2_with (first | (refine wpList_alloc_blk rfl 29 rfl zero4 ?_) | fail)
      go_at_call 42
      refine (isPool_any o n c x hn _ (H.out.alloc _)).mono ?_
      rintro e w1 ⟨rfl, hb1⟩
      have HB1 := Lib.hid hb1; clear hb1
      have R1 := Lib.hid (show Blk w1 w.heap.size 4 29 (I fun _ => 0) from (Blk.new _ _ _ _).below HB1.out (by simp))
      have HB1 := Lib.hid (((Below.refl w.heap.size w).alloc (by omega) _).trans (HB1.out.mono (by simp)))
      rw [g1]
      go_wp2_with fail
      go_at_call 49
      refine (isOutcome_any o n c n8 z _).mono ?_
      rintro e w' ⟨rfl, rfl⟩
      rw [HZ.out]
      go_wp2_with (first | (refine wpList_build0_blk rfl 29 rfl built4 ?_) | (refine wpList_store_blk rfl 29 _ _ rfl (R1.out) rfl rfl sz4 (fun _ _ => rfl) ?_) | fail)
      exact post_blk_tmp rfl (R1.out.setRow _) rfl Try.underlying29 sz4 rfl ⟨rfl, below_setRow HB1.out (by (focus (first | omega | (simp; done) | (simp; omega)))) _⟩
    · rw [pat_yes (by rw [g1, g2]; rfl)]
      have HZ := Lib.hid (show (decide ((0 : Int) ≤ z) && decide (z ≤ (sixN n : Int) - 1)) = true from g2)
      have gz := HZ.out
      simp only [Bool.and_eq_true, decide_eq_true_eq] at gz
      obtain ⟨z1, z2⟩ := gz
      have SM := Lib.hid (pool_small g1)
      clear g2
      go_enter Try.func18, Try.ntmps18
      go_wp2_with (first | (refine wpList_alloc_blk rfl 29 rfl zero4 ?_) | fail)
      go_at_call 42
      refine (isPool_any o n c x hn _ (H.out.alloc _)).mono ?_
      rintro e w1 ⟨rfl, hb1⟩
      have HB1 := Lib.hid hb1; clear hb1
      have R1 := Lib.hid (show Blk w1 w.heap.size 4 29 (I fun _ => 0) from (Blk.new _ _ _ _).below HB1.out (by simp))
      have P1 := Lib.hid ((H.out.alloc _).below HB1.out)
      have HB1 := Lib.hid (((Below.refl w.heap.size w).alloc (by omega) _).trans (HB1.out.mono (by simp)))
      rw [g1]
      go_wp2_with fail
      go_at_call 49
      refine (isOutcome_any o n c n8 z _).mono ?_
      rintro e w' ⟨rfl, rfl⟩
      rw [HZ.out]
      obtain ⟨k, hk⟩ := Int.eq_ofNat_of_zero_le z1
      subst hk
      go_wp2_with fail
      go_at_call 51
      refine (rollAt_any o n c x k n1 n4 (by omega) _ P1.out).mono ?_
      rintro e w2 ⟨rfl, hS, hb⟩
      have S2 := Lib.hid hS
      have R2 := Lib.hid (R1.out.below hb R1.out.lt)
      have HB2 := Lib.hid (HB1.out.trans (hb.mono HB1.out.size))
      clear hb hS
      go_wp2_with fail
      go_at_call 50
      refine (patternOf_any _ n _ n1 n4 (fun j hj => by have := rollF_bd SM.out k j hj; omega) _ S2.out).mono ?_
      rintro e w3 ⟨rfl, hb⟩
      have R3 := Lib.hid (R2.out.below hb R2.out.lt)
      have HB3 := Lib.hid (HB2.out.trans (hb.mono HB2.out.size))
      clear hb
      go_wp2_with (first | (refine wpList_store_blk rfl 29 _ _ rfl (R3.out) rfl rfl sz4 (fun _ _ => rfl) ?_) | fail)
      exact post_blk_tmp rfl (R3.out.setRow _) rfl Try.underlying29 sz4 rfl ⟨rfl, below_setRow HB3.out (by (focus (first | omega | (simp; done) | (simp; omega)))) _⟩
end Go.Proofs.Ytbfhfadfjgfmaaa
