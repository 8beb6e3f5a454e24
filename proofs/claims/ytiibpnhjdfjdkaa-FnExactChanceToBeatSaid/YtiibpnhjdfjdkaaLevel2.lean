/- Contracts of functions of this program, used by the laws of this seat. No condition beyond what each theorem states. -/
import Derived.Test.YtiibpnhjdfjdkaaLevel
set_option linter.unusedVariables false
set_option linter.unusedSimpArgs false
set_option linter.unusedSectionVars false
namespace Go.Proofs.Ytiibpnhjdfjdkaa
open Go.RowKit
set_option maxRecDepth 100000 in
set_option maxHeartbeats 2000000 in
theorem iChanceLevel_any (o : Option Addr) (n c : Nat) (x : Nat → Nat → Int) (hn : n ≤ 1048576) (o' : Option Addr) (m c' : Nat) (y : Nat → Nat → Int) (hm : m ≤ 1048576) (w : World) (h : PoolAt w o n x) (h' : PoolAt w o' m y) : Calls Try.prog 41 #[poolV o n c, poolV o' m c'] w fun e w' => e = .returned (.tuple #[.agg (row 2 (I (chLevelV n x m y))), .bool (poolB n x && poolB m y)]) ∧ Below w.heap.size w w' := by
  have H := Lib.hid h; clear h
  have H' := Lib.hid h'; clear h'
  cases g1 : poolB n x
  · have HV := Lib.hid (show chLevelV n x m y = fun _ => 0 by unfold chLevelV; rw [g1]; rfl)
    rw [HV.out]
    go_enter Try.func41, Try.ntmps41
    go_wp2_with (first | (refine wpList_alloc_blk rfl 43 rfl zero2 ?_) | fail)
    go_at_call 67
    refine (isPool_any o n c x hn _ (H.out.alloc _)).mono ?_
    rintro e w1 ⟨rfl, hb1⟩
    have HB1 := Lib.hid hb1; clear hb1
    have R1 := Lib.hid (show Blk w1 w.heap.size 2 43 (I fun _ => 0) from (Blk.new _ _ _ _).below HB1.out (by simp))
    have HP1 := Lib.hid ((H.out.alloc (.cells (row 2 (I fun _ => 0)) 43)).below HB1.out)
    have HQ1 := Lib.hid ((H'.out.alloc (.cells (row 2 (I fun _ => 0)) 43)).below HB1.out)
    have HB1 := Lib.hid (((Below.refl w.heap.size w).alloc (by omega) _).trans (HB1.out.mono (by simp)))
    rw [g1]
    go_wp2_with (first | (refine wpList_build0_blk rfl 43 rfl built2 ?_) | (refine wpList_store_blk rfl 43 _ _ rfl (R1.out) rfl rfl sz2 (fun _ _ => rfl) ?_) | fail)
    exact post_blk_tmp rfl (R1.out.setRow _) rfl Try.underlying43 sz2 rfl ⟨rfl, below_setRow HB1.out (by (focus (first | omega | (simp; done) | (simp; omega)))) _⟩
  · cases g2 : poolB m y
    · have HV := Lib.hid (show chLevelV n x m y = fun _ => 0 by unfold chLevelV; rw [g1, g2]; rfl)
      rw [HV.out]
      go_enter Try.func41, Try.ntmps41
      go_wp2_with (first | (refine wpList_alloc_blk rfl 43 rfl zero2 ?_) | fail)
      go_at_call 67
      refine (isPool_any o n c x hn _ (H.out.alloc _)).mono ?_
      rintro e w1 ⟨rfl, hb1⟩
      have HB1 := Lib.hid hb1; clear hb1
      have R1 := Lib.hid (show Blk w1 w.heap.size 2 43 (I fun _ => 0) from (Blk.new _ _ _ _).below HB1.out (by simp))
      have HP1 := Lib.hid ((H.out.alloc (.cells (row 2 (I fun _ => 0)) 43)).below HB1.out)
      have HQ1 := Lib.hid ((H'.out.alloc (.cells (row 2 (I fun _ => 0)) 43)).below HB1.out)
      have HB1 := Lib.hid (((Below.refl w.heap.size w).alloc (by omega) _).trans (HB1.out.mono (by simp)))
      rw [g1]
      go_wp2_with fail
      go_at_call 67
      refine (isPool_any o' m c' y hm _ HQ1.out).mono ?_
      rintro e w2 ⟨rfl, hb2⟩
      have R2 := Lib.hid (R1.out.below hb2 R1.out.lt)
      have HB2 := Lib.hid (HB1.out.trans (hb2.mono HB1.out.size)); clear hb2
      rw [g2]
      go_wp2_with (first | (refine wpList_build0_blk rfl 43 rfl built2 ?_) | (refine wpList_store_blk rfl 43 _ _ rfl (R2.out) rfl rfl sz2 (fun _ _ => rfl) ?_) | fail)
      exact post_blk_tmp rfl (R2.out.setRow _) rfl Try.underlying43 sz2 rfl ⟨rfl, below_setRow HB2.out (by (focus (first | omega | (simp; done) | (simp; omega)))) _⟩
    · have HV := Lib.hid (show chLevelV n x m y = fracV (levelF (tabF x n) (tabF y m) 121).toNat ((sixN (n + m) : Int)).toNat by unfold chLevelV; rw [g1, g2]; rfl)
      rw [HV.out]
      have G1 := Lib.hid g1
      have G2 := Lib.hid g2
      obtain ⟨n1, n4⟩ := pool_le g1
      obtain ⟨m1, m4⟩ := pool_le g2
      have n8 : n ≤ 8 := by omega
      have m8 : m ≤ 8 := by omega
      have nm8 : n + m ≤ 8 := by omega
      obtain ⟨b1, b2, s1, s2⟩ := share_bd g1
      obtain ⟨b3, b4, s3, s4⟩ := share_bd g2
      have hS := (sixN_le (n + m) (by omega))
      have q1 : 0 < (sixN (n + m) : Int) := by omega
      have q2 : (sixN (n + m) : Int) ≤ 1000000000 := by omega
      have SS := Lib.hid (show (sixN n : Int) * (sixN m : Int) = (sixN (n + m) : Int) by rw [sixN_add, Int.natCast_mul])
      obtain ⟨t, ht⟩ : ∃ t, t = tabF x n := ⟨_, rfl⟩
      have HT := Lib.hid ht
      obtain ⟨u, hu⟩ : ∃ u, u = tabF y m := ⟨_, rfl⟩
      have HU := Lib.hid hu
      rw [← ht] at b1 b2
      rw [← hu] at b3 b4
      have B1 := Lib.hid b1
      have B3 := Lib.hid b3
      have B4 := Lib.hid b4
      have LV := Lib.hid (fun k hk => levelF_bd b1 b3 k hk)
      have BT := Lib.hid (fun k hk => beatF_bd b1 b4 k hk)
      clear ht hu b1 b2 b3 b4 hS
      rw [← HT.out, ← HU.out]
      go_enter Try.func41, Try.ntmps41
      go_wp2_with (first | (refine wpList_alloc_blk rfl 43 rfl zero2 ?_) | fail)
      go_at_call 67
      refine (isPool_any o n c x hn _ (H.out.alloc _)).mono ?_
      rintro e w1 ⟨rfl, hb1⟩
      have HB1 := Lib.hid hb1; clear hb1
      have R1 := Lib.hid (show Blk w1 w.heap.size 2 43 (I fun _ => 0) from (Blk.new _ _ _ _).below HB1.out (by simp))
      have HP1 := Lib.hid ((H.out.alloc (.cells (row 2 (I fun _ => 0)) 43)).below HB1.out)
      have HQ1 := Lib.hid ((H'.out.alloc (.cells (row 2 (I fun _ => 0)) 43)).below HB1.out)
      have HB1 := Lib.hid (((Below.refl w.heap.size w).alloc (by omega) _).trans (HB1.out.mono (by simp)))
      rw [g1]
      go_wp2_with fail
      go_at_call 67
      refine (isPool_any o' m c' y hm _ HQ1.out).mono ?_
      rintro e w2 ⟨rfl, hb2⟩
      have R2 := Lib.hid (R1.out.below hb2 R1.out.lt)
      have HB2 := Lib.hid (HB1.out.trans (hb2.mono HB1.out.size)); clear hb2
      rw [g2]
      clear g1 g2
      go_wp2_with fail
      go_at_call 62
      refine (sums_any o n c x hn G1.out _ (H.out.below HB2.out)).mono ?_
      rintro e w3 ⟨rfl, hb3⟩
      have R3 := Lib.hid (R2.out.below hb3 R2.out.lt)
      have HB3 := Lib.hid (HB2.out.trans (hb3.mono HB2.out.size)); clear hb3
      go_wp2_with fail
      go_at_call 62
      refine (sums_any o' m c' y hm G2.out _ (H'.out.below HB3.out)).mono ?_
      rintro e w4 ⟨rfl, hb4⟩
      have R4 := Lib.hid (R3.out.below hb4 R3.out.lt)
      have HB4 := Lib.hid (HB3.out.trans (hb4.mono HB3.out.size)); clear hb4
      rw [← HT.out, ← HU.out]
      have Z1 := Lib.hid (show Blk ((w4.alloc (.cells (row 121 (I fun _ => 0)) 65)).alloc (.cells (row 121 (I fun _ => 0)) 65)) w4.heap.size 121 65 (I fun _ => 0) from (Blk.new _ _ _ _).alloc _)
      have Z2 := Lib.hid (fun cs => show Blk (((w4.alloc (.cells (row 121 (I fun _ => 0)) 65)).alloc (.cells (row 121 (I fun _ => 0)) 65)).setRow w4.heap.size cs) (w4.alloc (.cells (row 121 (I fun _ => 0)) 65)).heap.size 121 65 (I fun _ => 0) from (Blk.new _ _ _ _).setRowOther _ _ (by simp))
      go_wp2_with (first | (refine wpList_alloc_blk rfl 65 rfl zero121 ?_) | ((with_reducible apply wpList_store_blk); (case hw => rfl); (case ho => rfl); (case hx => rfl); (case hy => rfl); (case hb => with_reducible exact Z1.out); (case hi => exact sz121); (case h1 => exact fun _ _ => rfl)) | ((with_reducible apply wpList_store_blk); (case hw => rfl); (case ho => rfl); (case hx => rfl); (case hy => rfl); (case hb => with_reducible exact Z2.out _); (case hi => exact sz121); (case h1 => exact fun _ _ => rfl)) | fail)
      have X5 := Lib.hid (show Blk ((((w4.alloc (.cells (row 121 (I fun _ => 0)) 65)).alloc (.cells (row 121 (I fun _ => 0)) 65)).setRow w4.heap.size (row 121 (I (t)))).setRow (w4.heap.size + 1) (row 121 (I (u)))) w4.heap.size 121 65 (I (t)) from (Z1.out.setRow _).setRowOther _ _ (ne01 _))
      have Y5 := Lib.hid (show Blk ((((w4.alloc (.cells (row 121 (I fun _ => 0)) 65)).alloc (.cells (row 121 (I fun _ => 0)) 65)).setRow w4.heap.size (row 121 (I (t)))).setRow (w4.heap.size + 1) (row 121 (I (u)))) (w4.heap.size + 1) 121 65 (I (u)) from ((Blk.newS (by simp)).setRowOther _ _ (ne10 _) : Blk (((w4.alloc (.cells (row 121 (I fun _ => 0)) 65)).alloc (.cells (row 121 (I fun _ => 0)) 65)).setRow w4.heap.size (row 121 (I (t)))) (w4.heap.size + 1) 121 65 (I fun _ => 0)).setRow _)
      have HB5 := Lib.hid (show Below w.heap.size w ((((w4.alloc (.cells (row 121 (I fun _ => 0)) 65)).alloc (.cells (row 121 (I fun _ => 0)) 65)).setRow w4.heap.size (row 121 (I (t)))).setRow (w4.heap.size + 1) (row 121 (I (u)))) from below_setRow (below_setRow ((HB4.out.alloc HB4.out.size _).alloc (by have := HB4.out.size; simp; omega) _) HB4.out.size _) (by have := HB4.out.size; omega) _)
      clear Z1 Z2
      have R5 := Lib.hid (((R4.out.alloc (.cells (row 121 (I fun _ => 0)) 65)).alloc (.cells (row 121 (I fun _ => 0)) 65)).setRowOther w4.heap.size (row 121 (I (t))) (by have := R4.out.lt; omega) |>.setRowOther (w4.heap.size + 1) (row 121 (I (u))) (by have := R4.out.lt; omega))
      generalize hw5 : ((((w4.alloc (.cells (row 121 (I fun _ => 0)) 65)).alloc (.cells (row 121 (I fun _ => 0)) 65)).setRow w4.heap.size (row 121 (I (t)))).setRow (w4.heap.size + 1) (row 121 (I (u)))) = w5 at X5 Y5 HB5 R5 ⊢
      clear hw5
      go_loopw [8, 23] (fun a i wr => ∃ k : Nat, k ≤ 121 ∧ i = .int .i64 (k : Int) ∧ a = .int .i64 (levelF t u k) ∧ Blk wr w.heap.size 2 43 (I fun _ => 0) ∧ Blk wr w4.heap.size 121 65 (I t) ∧ Blk wr (w4.heap.size + 1) 121 65 (I u) ∧ Below w.heap.size w wr) (fun a i _ => 122 - (intOf i).toNat)
      case atStart => exact ⟨0, by omega, rfl, rfl, R5.out, X5.out, Y5.out, HB5.out⟩
      case round =>
        obtain ⟨i, hi, rfl, rfl, hR, hX, hY, hb⟩ := hrel
        clear X5 Y5 HB5 R5
        obtain ⟨e1, e2⟩ := LV.out i hi
        by_cases hlt : i < 121
        · have d1 : decide ((i : Int) < 121) = true := by simp; omega
          have c1 : wr.cell? ⟨w4.heap.size, i, none⟩ = some (.int .i64 (t i)) := hX.cell hlt
          have c2 : wr.cell? ⟨w4.heap.size + 1, i, none⟩ = some (.int .i64 (u i)) := hY.cell hlt
          obtain ⟨e5, e6⟩ := mul_le (A := 1296) (B := 1296) (B1.out i hlt) (B3.out i hlt)
          have HA := Lib.hid (show levelF t u i + t i * u i = levelF t u (i + 1) from rfl)
          have HB := Lib.hid hb; have HX := Lib.hid hX; have HY := Lib.hid hY; have HR := Lib.hid hR
          clear hb hX hY hR
          go_wp2
          go_quiet (fail)
          go_wp2
          go_roundw
          case rel => exact ⟨i + 1, by omega, by go_num, by rw [HA.out], HR.out.drewN _, HX.out.drewN _, HY.out.drewN _, below_drewN HB.out _⟩
          case measure => simp [intOf]; omega
        · have d1 : decide ((i : Int) < 121) = false := by simp; omega
          have HE := Lib.hid (show i = 121 by omega)
          have e3 : levelF t u i ≤ 1000000000 := by omega
          have HB := Lib.hid hb; have HR := Lib.hid hR
          clear hb hX hY hR
          go_wp2_with fail
          go_at_call 68
          refine (show Calls Try.prog 68 #[.int .i64 ((n : Int) + (m : Int))] wr fun e w' => e = .returned (.int .i64 (sixN (n + m) : Int)) ∧ wr = w' from by have := power_any (n + m) nm8 wr; simpa using this).mono ?_
          rintro e w' ⟨rfl, rfl⟩
          go_wp2_with fail
          go_at_call 80
          refine (fraction_int (levelF t u i) (sixN (n + m) : Int) e1 e3 q1 q2 _).mono ?_
          rintro e w6 ⟨rfl, hb6⟩
          have R6 := Lib.hid (HR.out.below hb6 HR.out.lt)
          have HB6 := Lib.hid (HB.out.trans (hb6.mono HB.out.size)); clear hb6
          go_wp2_with (first | (refine wpList_store_blk rfl 43 _ _ rfl (R6.out) rfl rfl sz2 (fun _ _ => rfl) ?_) | fail)
          exact post_blk_tmp rfl (R6.out.setRow _) rfl Try.underlying43 sz2 rfl ⟨by rw [HE.out]; rfl, below_setRow HB6.out (by (focus (first | omega | (simp; done) | (simp; omega)))) _⟩
set_option maxRecDepth 100000 in
set_option maxHeartbeats 2000000 in
theorem iChanceToBeat_any (o : Option Addr) (n c : Nat) (x : Nat → Nat → Int) (hn : n ≤ 1048576) (o' : Option Addr) (m c' : Nat) (y : Nat → Nat → Int) (hm : m ≤ 1048576) (w : World) (h : PoolAt w o n x) (h' : PoolAt w o' m y) : Calls Try.prog 43 #[poolV o n c, poolV o' m c'] w fun e w' => e = .returned (.tuple #[.agg (row 2 (I (toBeatV n x m y))), .bool (poolB n x && poolB m y)]) ∧ Below w.heap.size w w' := by
  have H := Lib.hid h; clear h
  have H' := Lib.hid h'; clear h'
  cases g1 : poolB n x
  · have HV := Lib.hid (show toBeatV n x m y = fun _ => 0 by unfold toBeatV; rw [g1]; rfl)
    rw [HV.out]
    go_enter Try.func43, Try.ntmps43
    go_wp2_with (first | (refine wpList_alloc_blk rfl 43 rfl zero2 ?_) | fail)
    go_at_call 67
    refine (isPool_any o n c x hn _ (H.out.alloc _)).mono ?_
    rintro e w1 ⟨rfl, hb1⟩
    have HB1 := Lib.hid hb1; clear hb1
    have R1 := Lib.hid (show Blk w1 w.heap.size 2 43 (I fun _ => 0) from (Blk.new _ _ _ _).below HB1.out (by simp))
    have HP1 := Lib.hid ((H.out.alloc (.cells (row 2 (I fun _ => 0)) 43)).below HB1.out)
    have HQ1 := Lib.hid ((H'.out.alloc (.cells (row 2 (I fun _ => 0)) 43)).below HB1.out)
    have HB1 := Lib.hid (((Below.refl w.heap.size w).alloc (by omega) _).trans (HB1.out.mono (by simp)))
    rw [g1]
    go_wp2_with (first | (refine wpList_build0_blk rfl 43 rfl built2 ?_) | (refine wpList_store_blk rfl 43 _ _ rfl (R1.out) rfl rfl sz2 (fun _ _ => rfl) ?_) | fail)
    exact post_blk_tmp rfl (R1.out.setRow _) rfl Try.underlying43 sz2 rfl ⟨rfl, below_setRow HB1.out (by (focus (first | omega | (simp; done) | (simp; omega)))) _⟩
  · cases g2 : poolB m y
    · have HV := Lib.hid (show toBeatV n x m y = fun _ => 0 by unfold toBeatV; rw [g1, g2]; rfl)
      rw [HV.out]
      go_enter Try.func43, Try.ntmps43
      go_wp2_with (first | (refine wpList_alloc_blk rfl 43 rfl zero2 ?_) | fail)
      go_at_call 67
      refine (isPool_any o n c x hn _ (H.out.alloc _)).mono ?_
      rintro e w1 ⟨rfl, hb1⟩
      have HB1 := Lib.hid hb1; clear hb1
      have R1 := Lib.hid (show Blk w1 w.heap.size 2 43 (I fun _ => 0) from (Blk.new _ _ _ _).below HB1.out (by simp))
      have HP1 := Lib.hid ((H.out.alloc (.cells (row 2 (I fun _ => 0)) 43)).below HB1.out)
      have HQ1 := Lib.hid ((H'.out.alloc (.cells (row 2 (I fun _ => 0)) 43)).below HB1.out)
      have HB1 := Lib.hid (((Below.refl w.heap.size w).alloc (by omega) _).trans (HB1.out.mono (by simp)))
      rw [g1]
      go_wp2_with fail
      go_at_call 67
      refine (isPool_any o' m c' y hm _ HQ1.out).mono ?_
      rintro e w2 ⟨rfl, hb2⟩
      have R2 := Lib.hid (R1.out.below hb2 R1.out.lt)
      have HB2 := Lib.hid (HB1.out.trans (hb2.mono HB1.out.size)); clear hb2
      rw [g2]
      go_wp2_with (first | (refine wpList_build0_blk rfl 43 rfl built2 ?_) | (refine wpList_store_blk rfl 43 _ _ rfl (R2.out) rfl rfl sz2 (fun _ _ => rfl) ?_) | fail)
      exact post_blk_tmp rfl (R2.out.setRow _) rfl Try.underlying43 sz2 rfl ⟨rfl, below_setRow HB2.out (by (focus (first | omega | (simp; done) | (simp; omega)))) _⟩
    · have HV := Lib.hid (show toBeatV n x m y = fracV (beatF (tabF x n) (tabF y m) 121).toNat ((sixN (n + m) : Int)).toNat by unfold toBeatV; rw [g1, g2]; rfl)
      rw [HV.out]
      have G1 := Lib.hid g1
      have G2 := Lib.hid g2
      obtain ⟨n1, n4⟩ := pool_le g1
      obtain ⟨m1, m4⟩ := pool_le g2
      have n8 : n ≤ 8 := by omega
      have m8 : m ≤ 8 := by omega
      have nm8 : n + m ≤ 8 := by omega
      obtain ⟨b1, b2, s1, s2⟩ := share_bd g1
      obtain ⟨b3, b4, s3, s4⟩ := share_bd g2
      have hS := (sixN_le (n + m) (by omega))
      have q1 : 0 < (sixN (n + m) : Int) := by omega
      have q2 : (sixN (n + m) : Int) ≤ 1000000000 := by omega
      have SS := Lib.hid (show (sixN n : Int) * (sixN m : Int) = (sixN (n + m) : Int) by rw [sixN_add, Int.natCast_mul])
      obtain ⟨t, ht⟩ : ∃ t, t = tabF x n := ⟨_, rfl⟩
      have HT := Lib.hid ht
      obtain ⟨u, hu⟩ : ∃ u, u = tabF y m := ⟨_, rfl⟩
      have HU := Lib.hid hu
      rw [← ht] at b1 b2
      rw [← hu] at b3 b4
      have B1 := Lib.hid b1
      have B3 := Lib.hid b3
      have B4 := Lib.hid b4
      have LV := Lib.hid (fun k hk => levelF_bd b1 b3 k hk)
      have BT := Lib.hid (fun k hk => beatF_bd b1 b4 k hk)
      clear ht hu b1 b2 b3 b4 hS
      rw [← HT.out, ← HU.out]
      go_enter Try.func43, Try.ntmps43
      go_wp2_with (first | (refine wpList_alloc_blk rfl 43 rfl zero2 ?_) | fail)
      go_at_call 67
      refine (isPool_any o n c x hn _ (H.out.alloc _)).mono ?_
      rintro e w1 ⟨rfl, hb1⟩
      have HB1 := Lib.hid hb1; clear hb1
      have R1 := Lib.hid (show Blk w1 w.heap.size 2 43 (I fun _ => 0) from (Blk.new _ _ _ _).below HB1.out (by simp))
      have HP1 := Lib.hid ((H.out.alloc (.cells (row 2 (I fun _ => 0)) 43)).below HB1.out)
      have HQ1 := Lib.hid ((H'.out.alloc (.cells (row 2 (I fun _ => 0)) 43)).below HB1.out)
      have HB1 := Lib.hid (((Below.refl w.heap.size w).alloc (by omega) _).trans (HB1.out.mono (by simp)))
      rw [g1]
      go_wp2_with fail
      go_at_call 67
      refine (isPool_any o' m c' y hm _ HQ1.out).mono ?_
      rintro e w2 ⟨rfl, hb2⟩
      have R2 := Lib.hid (R1.out.below hb2 R1.out.lt)
      have HB2 := Lib.hid (HB1.out.trans (hb2.mono HB1.out.size)); clear hb2
      rw [g2]
      clear g1 g2
      go_wp2_with fail
      go_at_call 62
      refine (sums_any o n c x hn G1.out _ (H.out.below HB2.out)).mono ?_
      rintro e w3 ⟨rfl, hb3⟩
      have R3 := Lib.hid (R2.out.below hb3 R2.out.lt)
      have HB3 := Lib.hid (HB2.out.trans (hb3.mono HB2.out.size)); clear hb3
      go_wp2_with fail
      go_at_call 62
      refine (sums_any o' m c' y hm G2.out _ (H'.out.below HB3.out)).mono ?_
      rintro e w4 ⟨rfl, hb4⟩
      have R4 := Lib.hid (R3.out.below hb4 R3.out.lt)
      have HB4 := Lib.hid (HB3.out.trans (hb4.mono HB3.out.size)); clear hb4
      rw [← HT.out, ← HU.out]
      have Z1 := Lib.hid (show Blk ((w4.alloc (.cells (row 121 (I fun _ => 0)) 65)).alloc (.cells (row 121 (I fun _ => 0)) 65)) w4.heap.size 121 65 (I fun _ => 0) from (Blk.new _ _ _ _).alloc _)
      have Z2 := Lib.hid (fun cs => show Blk (((w4.alloc (.cells (row 121 (I fun _ => 0)) 65)).alloc (.cells (row 121 (I fun _ => 0)) 65)).setRow w4.heap.size cs) (w4.alloc (.cells (row 121 (I fun _ => 0)) 65)).heap.size 121 65 (I fun _ => 0) from (Blk.new _ _ _ _).setRowOther _ _ (by simp))
      go_wp2_with (first | (refine wpList_alloc_blk rfl 65 rfl zero121 ?_) | ((with_reducible apply wpList_store_blk); (case hw => rfl); (case ho => rfl); (case hx => rfl); (case hy => rfl); (case hb => with_reducible exact Z1.out); (case hi => exact sz121); (case h1 => exact fun _ _ => rfl)) | ((with_reducible apply wpList_store_blk); (case hw => rfl); (case ho => rfl); (case hx => rfl); (case hy => rfl); (case hb => with_reducible exact Z2.out _); (case hi => exact sz121); (case h1 => exact fun _ _ => rfl)) | fail)
      have X5 := Lib.hid (show Blk ((((w4.alloc (.cells (row 121 (I fun _ => 0)) 65)).alloc (.cells (row 121 (I fun _ => 0)) 65)).setRow w4.heap.size (row 121 (I (t)))).setRow (w4.heap.size + 1) (row 121 (I (u)))) w4.heap.size 121 65 (I (t)) from (Z1.out.setRow _).setRowOther _ _ (ne01 _))
      have Y5 := Lib.hid (show Blk ((((w4.alloc (.cells (row 121 (I fun _ => 0)) 65)).alloc (.cells (row 121 (I fun _ => 0)) 65)).setRow w4.heap.size (row 121 (I (t)))).setRow (w4.heap.size + 1) (row 121 (I (u)))) (w4.heap.size + 1) 121 65 (I (u)) from ((Blk.newS (by simp)).setRowOther _ _ (ne10 _) : Blk (((w4.alloc (.cells (row 121 (I fun _ => 0)) 65)).alloc (.cells (row 121 (I fun _ => 0)) 65)).setRow w4.heap.size (row 121 (I (t)))) (w4.heap.size + 1) 121 65 (I fun _ => 0)).setRow _)
      have HB5 := Lib.hid (show Below w.heap.size w ((((w4.alloc (.cells (row 121 (I fun _ => 0)) 65)).alloc (.cells (row 121 (I fun _ => 0)) 65)).setRow w4.heap.size (row 121 (I (t)))).setRow (w4.heap.size + 1) (row 121 (I (u)))) from below_setRow (below_setRow ((HB4.out.alloc HB4.out.size _).alloc (by have := HB4.out.size; simp; omega) _) HB4.out.size _) (by have := HB4.out.size; omega) _)
      clear Z1 Z2
      have R5 := Lib.hid (((R4.out.alloc (.cells (row 121 (I fun _ => 0)) 65)).alloc (.cells (row 121 (I fun _ => 0)) 65)).setRowOther w4.heap.size (row 121 (I (t))) (by have := R4.out.lt; omega) |>.setRowOther (w4.heap.size + 1) (row 121 (I (u))) (by have := R4.out.lt; omega))
      generalize hw5 : ((((w4.alloc (.cells (row 121 (I fun _ => 0)) 65)).alloc (.cells (row 121 (I fun _ => 0)) 65)).setRow w4.heap.size (row 121 (I (t)))).setRow (w4.heap.size + 1) (row 121 (I (u)))) = w5 at X5 Y5 HB5 R5 ⊢
      clear hw5
      go_loopw [8, 9, 24] (fun a v i wr => ∃ k : Nat, k ≤ 121 ∧ i = .int .i64 (k : Int) ∧ a = .int .i64 (beatF t u k) ∧ v = .int .i64 (sumF u k) ∧ Blk wr w.heap.size 2 43 (I fun _ => 0) ∧ Blk wr w4.heap.size 121 65 (I t) ∧ Blk wr (w4.heap.size + 1) 121 65 (I u) ∧ Below w.heap.size w wr) (fun a v i _ => 122 - (intOf i).toNat)
      case atStart => exact ⟨0, by omega, rfl, rfl, rfl, R5.out, X5.out, Y5.out, HB5.out⟩
      case round =>
        obtain ⟨i, hi, rfl, rfl, rfl, hR, hX, hY, hb⟩ := hrel
        clear X5 Y5 HB5 R5
        obtain ⟨e1, e2⟩ := BT.out i hi
        by_cases hlt : i < 121
        · have d1 : decide ((i : Int) < 121) = true := by simp; omega
          have c1 : wr.cell? ⟨w4.heap.size, i, none⟩ = some (.int .i64 (t i)) := hX.cell hlt
          have c2 : wr.cell? ⟨w4.heap.size + 1, i, none⟩ = some (.int .i64 (u i)) := hY.cell hlt
          obtain ⟨e3, e4⟩ := B4.out i (by omega)
          obtain ⟨e7, e8⟩ := B3.out i hlt
          obtain ⟨e5, e6⟩ := mul_le (A := 1296) (B := 1296) (B1.out i hlt) (B4.out i (by omega))
          have HA := Lib.hid (show beatF t u i + t i * sumF u i = beatF t u (i + 1) from rfl)
          have HA2 := Lib.hid (show sumF u i + u i = sumF u (i + 1) from rfl)
          have HB := Lib.hid hb; have HX := Lib.hid hX; have HY := Lib.hid hY; have HR := Lib.hid hR
          clear hb hX hY hR
          go_wp2
          go_roundw
          case rel => exact ⟨i + 1, by omega, by go_num, by rw [HA.out], by rw [HA2.out], HR.out, HX.out, HY.out, HB.out⟩
          case measure => simp [intOf]; omega
        · have d1 : decide ((i : Int) < 121) = false := by simp; omega
          have HE := Lib.hid (show i = 121 by omega)
          have e3 : beatF t u i ≤ 1000000000 := by omega
          have HB := Lib.hid hb; have HR := Lib.hid hR
          clear hb hX hY hR
          go_wp2_with fail
          go_at_call 68
          refine (show Calls Try.prog 68 #[.int .i64 ((n : Int) + (m : Int))] wr fun e w' => e = .returned (.int .i64 (sixN (n + m) : Int)) ∧ wr = w' from by have := power_any (n + m) nm8 wr; simpa using this).mono ?_
          rintro e w' ⟨rfl, rfl⟩
          go_wp2_with fail
          go_at_call 80
          refine (fraction_int (beatF t u i) (sixN (n + m) : Int) e1 e3 q1 q2 _).mono ?_
          rintro e w6 ⟨rfl, hb6⟩
          have R6 := Lib.hid (HR.out.below hb6 HR.out.lt)
          have HB6 := Lib.hid (HB.out.trans (hb6.mono HB.out.size)); clear hb6
          go_wp2_with (first | (refine wpList_store_blk rfl 43 _ _ rfl (R6.out) rfl rfl sz2 (fun _ _ => rfl) ?_) | fail)
          exact post_blk_tmp rfl (R6.out.setRow _) rfl Try.underlying43 sz2 rfl ⟨by rw [HE.out]; rfl, below_setRow HB6.out (by (focus (first | omega | (simp; done) | (simp; omega)))) _⟩
end Go.Proofs.Ytiibpnhjdfjdkaa
