/- SameSums, both sides. -/
import Derived.Test.YtiibpnhjdfjdkaaChance
set_option linter.unusedVariables false
set_option linter.unusedSimpArgs false
set_option linter.unusedSectionVars false
namespace Go.Proofs.Ytiibpnhjdfjdkaa
open Go.RowKit
noncomputable def sameB (n : Nat) (x : Nat → Nat → Int) (m : Nat) (y : Nat → Nat → Int) : Bool := (poolB n x && poolB m y) && allB (fun s => tabF x n s * (sixN m : Int) == tabF y m s * (sixN n : Int)) 121
theorem prod_bd {t a : Int} (ht : 0 ≤ t ∧ t ≤ 1296) (ha : 0 < a ∧ a ≤ 1296) : 0 ≤ t * a ∧ t * a ≤ 1679616 := mul_le (A := 1296) (B := 1296) ht ⟨by omega, ha.2⟩
theorem sameB_yes {n m : Nat} {x y : Nat → Nat → Int} (g1 : poolB n x = true) (g2 : poolB m y = true) (h : ∀ j, j < 121 → (tabF x n j * (sixN m : Int) == tabF y m j * (sixN n : Int)) = true) : sameB n x m y = true := by
  unfold sameB
  rw [g1, g2, (allB_iff (fun s => tabF x n s * (sixN m : Int) == tabF y m s * (sixN n : Int)) 121).2 h]
  rfl
theorem sameB_no {n m s : Nat} {x y : Nat → Nat → Int} (hs : s < 121) (h : (tabF x n s * (sixN m : Int) == tabF y m s * (sixN n : Int)) = false) : sameB n x m y = false := by
  unfold sameB
  rw [allB_false (p := fun s => tabF x n s * (sixN m : Int) == tabF y m s * (sixN n : Int)) (k := s) hs h, Bool.and_false]
set_option maxRecDepth 100000 in
set_option maxHeartbeats 2000000 in
theorem sSameSums_any (o : Option Addr) (n c : Nat) (x : Nat → Nat → Int) (hn : n ≤ 1048576) (o' : Option Addr) (m c' : Nat) (y : Nat → Nat → Int) (hm : m ≤ 1048576) (w : World) (h : PoolAt w o n x) (h' : PoolAt w o' m y) : Calls Try.prog 20 #[poolV o n c, poolV o' m c'] w fun e w' => e = .returned (.tuple #[.bool (sameB n x m y), .bool (poolB n x && poolB m y)]) ∧ Below w.heap.size w w' := by
  have H := Lib.hid h; clear h
  have H' := Lib.hid h'; clear h'
  cases g1 : poolB n x
  · have HV := Lib.hid (show sameB n x m y = false by unfold sameB; rw [g1]; rfl)
    rw [HV.out]
    go_enter Try.func20, Try.ntmps20
    go_wp2_with fail
    go_at_call 64
    refine (l2Pool_any o n c x hn _ H.out).mono ?_
    rintro e w1 ⟨rfl, hb1⟩
    have HB1 := Lib.hid hb1; clear hb1
    rw [g1]
    go_wp2
    go_ret2
    exact ⟨rfl, HB1.out⟩
  · cases g2 : poolB m y
    · have HV := Lib.hid (show sameB n x m y = false by unfold sameB; rw [g1, g2]; rfl)
      rw [HV.out]
      go_enter Try.func20, Try.ntmps20
      go_wp2_with fail
      go_at_call 64
      refine (l2Pool_any o n c x hn _ H.out).mono ?_
      rintro e w1 ⟨rfl, hb1⟩
      have HB1 := Lib.hid hb1; clear hb1
      rw [g1]
      go_wp2_with fail
      go_at_call 64
      refine (l2Pool_any o' m c' y hm _ (H'.out.below HB1.out)).mono ?_
      rintro e w2 ⟨rfl, hb2⟩
      have HB2 := Lib.hid (HB1.out.trans (hb2.mono HB1.out.size)); clear hb2
      rw [g2]
      go_wp2
      go_ret2
      exact ⟨rfl, HB2.out⟩
    · have G1 := Lib.hid g1
      have G2 := Lib.hid g2
      obtain ⟨n1, n4⟩ := pool_le g1
      obtain ⟨m1, m4⟩ := pool_le g2
      obtain ⟨b1, b2, s1, s2⟩ := share_bd g1
      obtain ⟨b3, b4, s3, s4⟩ := share_bd g2
      have B1 := Lib.hid b1
      have B3 := Lib.hid b3
      have SN := Lib.hid (show 0 < (sixN n : Int) ∧ (sixN n : Int) ≤ 1296 from ⟨s1, s2⟩)
      have SM := Lib.hid (show 0 < (sixN m : Int) ∧ (sixN m : Int) ≤ 1296 from ⟨s3, s4⟩)
      have n8 : n ≤ 8 := by omega
      have m8 : m ≤ 8 := by omega
      clear b1 b2 b3 b4 s1 s2 s3 s4
      go_enter Try.func20, Try.ntmps20
      go_wp2_with fail
      go_at_call 64
      refine (l2Pool_any o n c x hn _ H.out).mono ?_
      rintro e w1 ⟨rfl, hb1⟩
      have HB1 := Lib.hid hb1; clear hb1
      rw [g1]
      clear g1
      go_wp2_with fail
      go_at_call 64
      refine (l2Pool_any o' m c' y hm _ (H'.out.below HB1.out)).mono ?_
      rintro e w2 ⟨rfl, hb2⟩
      have HB2 := Lib.hid (HB1.out.trans (hb2.mono HB1.out.size)); clear hb2
      rw [g2]
      clear g2
      go_wp2_with fail
      go_at_call 65
      refine (l2Table_any o n c x hn G1.out _ (H.out.below HB2.out)).mono ?_
      rintro e w3 ⟨rfl, hb3⟩
      have HB3 := Lib.hid (HB2.out.trans (hb3.mono HB2.out.size)); clear hb3
      go_wp2_with fail
      go_at_call 65
      refine (l2Table_any o' m c' y hm G2.out _ (H'.out.below HB3.out)).mono ?_
      rintro e w4 ⟨rfl, hb4⟩
      have HB4 := Lib.hid (HB3.out.trans (hb4.mono HB3.out.size)); clear hb4
      have Z1 := Lib.hid (show Blk ((w4.alloc (.cells (row 121 (I fun _ => 0)) 65)).alloc (.cells (row 121 (I fun _ => 0)) 65)) w4.heap.size 121 65 (I fun _ => 0) from (Blk.new _ _ _ _).alloc _)
      have Z2 := Lib.hid (fun cs => show Blk (((w4.alloc (.cells (row 121 (I fun _ => 0)) 65)).alloc (.cells (row 121 (I fun _ => 0)) 65)).setRow w4.heap.size cs) (w4.alloc (.cells (row 121 (I fun _ => 0)) 65)).heap.size 121 65 (I fun _ => 0) from (Blk.new _ _ _ _).setRowOther _ _ (by simp))
      go_wp2_with (first | (refine wpList_alloc_blk rfl 65 rfl zero121 ?_) | ((with_reducible apply wpList_store_blk); (case hw => rfl); (case ho => rfl); (case hx => rfl); (case hy => rfl); (case hb => with_reducible exact Z1.out); (case hi => exact sz121); (case h1 => exact fun _ _ => rfl)) | ((with_reducible apply wpList_store_blk); (case hw => rfl); (case ho => rfl); (case hx => rfl); (case hy => rfl); (case hb => with_reducible exact Z2.out _); (case hi => exact sz121); (case h1 => exact fun _ _ => rfl)) | fail)
      have X5 := Lib.hid (show Blk ((((w4.alloc (.cells (row 121 (I fun _ => 0)) 65)).alloc (.cells (row 121 (I fun _ => 0)) 65)).setRow w4.heap.size (row 121 (I (tabF x n)))).setRow (w4.heap.size + 1) (row 121 (I (tabF y m)))) w4.heap.size 121 65 (I (tabF x n)) from (Z1.out.setRow _).setRowOther _ _ (ne01 _))
      have Y5 := Lib.hid (show Blk ((((w4.alloc (.cells (row 121 (I fun _ => 0)) 65)).alloc (.cells (row 121 (I fun _ => 0)) 65)).setRow w4.heap.size (row 121 (I (tabF x n)))).setRow (w4.heap.size + 1) (row 121 (I (tabF y m)))) (w4.heap.size + 1) 121 65 (I (tabF y m)) from ((Blk.newS (by simp)).setRowOther _ _ (ne10 _) : Blk (((w4.alloc (.cells (row 121 (I fun _ => 0)) 65)).alloc (.cells (row 121 (I fun _ => 0)) 65)).setRow w4.heap.size (row 121 (I (tabF x n)))) (w4.heap.size + 1) 121 65 (I fun _ => 0)).setRow _)
      have HB5 := Lib.hid (show Below w.heap.size w ((((w4.alloc (.cells (row 121 (I fun _ => 0)) 65)).alloc (.cells (row 121 (I fun _ => 0)) 65)).setRow w4.heap.size (row 121 (I (tabF x n)))).setRow (w4.heap.size + 1) (row 121 (I (tabF y m)))) from below_setRow (below_setRow ((HB4.out.alloc HB4.out.size _).alloc (by have := HB4.out.size; simp; omega) _) HB4.out.size _) (by have := HB4.out.size; omega) _)
      clear Z1 Z2
      generalize hw5 : ((((w4.alloc (.cells (row 121 (I fun _ => 0)) 65)).alloc (.cells (row 121 (I fun _ => 0)) 65)).setRow w4.heap.size (row 121 (I (tabF x n)))).setRow (w4.heap.size + 1) (row 121 (I (tabF y m)))) = w5 at X5 Y5 HB5 ⊢
      clear hw5
      go_loopw [8] (fun i wr => ∃ s : Nat, s ≤ 121 ∧ i = .int .i64 (s : Int) ∧ Hid (∀ j, j < s → (tabF x n j * (sixN m : Int) == tabF y m j * (sixN n : Int)) = true) ∧ Blk wr w4.heap.size 121 65 (I (tabF x n)) ∧ Blk wr (w4.heap.size + 1) 121 65 (I (tabF y m)) ∧ Below w.heap.size w wr) (fun i _ => 122 - (intOf i).toNat)
      case atStart => exact ⟨0, by omega, rfl, (fun j hj => by omega), X5.out, Y5.out, HB5.out⟩
      case round =>
        obtain ⟨s, hs, rfl, HO, hX, hY, hb⟩ := hrel
        clear X5 Y5 HB5
        have HB := Lib.hid hb; have HX := Lib.hid hX; have HY := Lib.hid hY
        clear hb
        by_cases hlt : s < 121
        · have d1 : decide ((s : Int) < 121) = true := by simp; omega
          have c1 : wr.cell? ⟨w4.heap.size, s, none⟩ = some (.int .i64 (tabF x n s)) := hX.cell hlt
          have c2 : wr.cell? ⟨w4.heap.size + 1, s, none⟩ = some (.int .i64 (tabF y m s)) := hY.cell hlt
          obtain ⟨e1, e2⟩ := prod_bd (B1.out s hlt) SM.out
          obtain ⟨e3, e4⟩ := prod_bd (B3.out s hlt) SN.out
          clear hX hY
          cases gq : (tabF x n s * (sixN m : Int) == tabF y m s * (sixN n : Int))
          all_goals
            have GQ := Lib.hid gq
            go_wp2
            go_quiet ((first | (go_at_call 66; with_reducible exact quiet_eq (l2All_any n n8 _)) | (go_at_call 66; with_reducible exact quiet_eq (l2All_any m m8 _))))
            go_wp2
            first
              | (go_ret2
                 exact ⟨by rw [sameB_no hlt GQ.out]; rfl, below_drewN HB.out _⟩)
              | (go_roundw
                 case rel => exact ⟨s + 1, by omega, by go_num, (fun j hj => if e : j = s then e ▸ GQ.out else HO.out j (by omega)), HX.out.drewN _, HY.out.drewN _, below_drewN HB.out _⟩
                 case measure => simp [intOf]; omega)
        · have HF := Lib.hid (sameB_yes G1.out G2.out (fun j hj => HO.out j (by omega)))
          clear hX hY
          have d1 : decide ((s : Int) < 121) = false := by simp; omega
          go_wp2
          go_ret2
          exact ⟨by rw [HF.out]; rfl, HB.out⟩
set_option maxRecDepth 100000 in
set_option maxHeartbeats 2000000 in
theorem iSameSums_any (o : Option Addr) (n c : Nat) (x : Nat → Nat → Int) (hn : n ≤ 1048576) (o' : Option Addr) (m c' : Nat) (y : Nat → Nat → Int) (hm : m ≤ 1048576) (w : World) (h : PoolAt w o n x) (h' : PoolAt w o' m y) : Calls Try.prog 22 #[poolV o n c, poolV o' m c'] w fun e w' => e = .returned (.tuple #[.bool (sameB n x m y), .bool (poolB n x && poolB m y)]) ∧ Below w.heap.size w w' := by
  have H := Lib.hid h; clear h
  have H' := Lib.hid h'; clear h'
  cases g1 : poolB n x
  · have HV := Lib.hid (show sameB n x m y = false by unfold sameB; rw [g1]; rfl)
    rw [HV.out]
    go_enter Try.func22, Try.ntmps22
    go_wp2_with fail
    go_at_call 67
    refine (isPool_any o n c x hn _ H.out).mono ?_
    rintro e w1 ⟨rfl, hb1⟩
    have HB1 := Lib.hid hb1; clear hb1
    rw [g1]
    go_wp2
    go_ret2
    exact ⟨rfl, HB1.out⟩
  · cases g2 : poolB m y
    · have HV := Lib.hid (show sameB n x m y = false by unfold sameB; rw [g1, g2]; rfl)
      rw [HV.out]
      go_enter Try.func22, Try.ntmps22
      go_wp2_with fail
      go_at_call 67
      refine (isPool_any o n c x hn _ H.out).mono ?_
      rintro e w1 ⟨rfl, hb1⟩
      have HB1 := Lib.hid hb1; clear hb1
      rw [g1]
      go_wp2_with fail
      go_at_call 67
      refine (isPool_any o' m c' y hm _ (H'.out.below HB1.out)).mono ?_
      rintro e w2 ⟨rfl, hb2⟩
      have HB2 := Lib.hid (HB1.out.trans (hb2.mono HB1.out.size)); clear hb2
      rw [g2]
      go_wp2
      go_ret2
      exact ⟨rfl, HB2.out⟩
    · have G1 := Lib.hid g1
      have G2 := Lib.hid g2
      obtain ⟨n1, n4⟩ := pool_le g1
      obtain ⟨m1, m4⟩ := pool_le g2
      obtain ⟨b1, b2, s1, s2⟩ := share_bd g1
      obtain ⟨b3, b4, s3, s4⟩ := share_bd g2
      have B1 := Lib.hid b1
      have B3 := Lib.hid b3
      have SN := Lib.hid (show 0 < (sixN n : Int) ∧ (sixN n : Int) ≤ 1296 from ⟨s1, s2⟩)
      have SM := Lib.hid (show 0 < (sixN m : Int) ∧ (sixN m : Int) ≤ 1296 from ⟨s3, s4⟩)
      have n8 : n ≤ 8 := by omega
      have m8 : m ≤ 8 := by omega
      clear b1 b2 b3 b4 s1 s2 s3 s4
      go_enter Try.func22, Try.ntmps22
      go_wp2_with fail
      go_at_call 67
      refine (isPool_any o n c x hn _ H.out).mono ?_
      rintro e w1 ⟨rfl, hb1⟩
      have HB1 := Lib.hid hb1; clear hb1
      rw [g1]
      clear g1
      go_wp2_with fail
      go_at_call 67
      refine (isPool_any o' m c' y hm _ (H'.out.below HB1.out)).mono ?_
      rintro e w2 ⟨rfl, hb2⟩
      have HB2 := Lib.hid (HB1.out.trans (hb2.mono HB1.out.size)); clear hb2
      rw [g2]
      clear g2
      go_wp2_with fail
      go_at_call 62
      refine (sums_any o n c x hn G1.out _ (H.out.below HB2.out)).mono ?_
      rintro e w3 ⟨rfl, hb3⟩
      have HB3 := Lib.hid (HB2.out.trans (hb3.mono HB2.out.size)); clear hb3
      go_wp2_with fail
      go_at_call 62
      refine (sums_any o' m c' y hm G2.out _ (H'.out.below HB3.out)).mono ?_
      rintro e w4 ⟨rfl, hb4⟩
      have HB4 := Lib.hid (HB3.out.trans (hb4.mono HB3.out.size)); clear hb4
      have Z1 := Lib.hid (show Blk ((w4.alloc (.cells (row 121 (I fun _ => 0)) 65)).alloc (.cells (row 121 (I fun _ => 0)) 65)) w4.heap.size 121 65 (I fun _ => 0) from (Blk.new _ _ _ _).alloc _)
      have Z2 := Lib.hid (fun cs => show Blk (((w4.alloc (.cells (row 121 (I fun _ => 0)) 65)).alloc (.cells (row 121 (I fun _ => 0)) 65)).setRow w4.heap.size cs) (w4.alloc (.cells (row 121 (I fun _ => 0)) 65)).heap.size 121 65 (I fun _ => 0) from (Blk.new _ _ _ _).setRowOther _ _ (by simp))
      go_wp2_with (first | (refine wpList_alloc_blk rfl 65 rfl zero121 ?_) | ((with_reducible apply wpList_store_blk); (case hw => rfl); (case ho => rfl); (case hx => rfl); (case hy => rfl); (case hb => with_reducible exact Z1.out); (case hi => exact sz121); (case h1 => exact fun _ _ => rfl)) | ((with_reducible apply wpList_store_blk); (case hw => rfl); (case ho => rfl); (case hx => rfl); (case hy => rfl); (case hb => with_reducible exact Z2.out _); (case hi => exact sz121); (case h1 => exact fun _ _ => rfl)) | fail)
      have X5 := Lib.hid (show Blk ((((w4.alloc (.cells (row 121 (I fun _ => 0)) 65)).alloc (.cells (row 121 (I fun _ => 0)) 65)).setRow w4.heap.size (row 121 (I (tabF x n)))).setRow (w4.heap.size + 1) (row 121 (I (tabF y m)))) w4.heap.size 121 65 (I (tabF x n)) from (Z1.out.setRow _).setRowOther _ _ (ne01 _))
      have Y5 := Lib.hid (show Blk ((((w4.alloc (.cells (row 121 (I fun _ => 0)) 65)).alloc (.cells (row 121 (I fun _ => 0)) 65)).setRow w4.heap.size (row 121 (I (tabF x n)))).setRow (w4.heap.size + 1) (row 121 (I (tabF y m)))) (w4.heap.size + 1) 121 65 (I (tabF y m)) from ((Blk.newS (by simp)).setRowOther _ _ (ne10 _) : Blk (((w4.alloc (.cells (row 121 (I fun _ => 0)) 65)).alloc (.cells (row 121 (I fun _ => 0)) 65)).setRow w4.heap.size (row 121 (I (tabF x n)))) (w4.heap.size + 1) 121 65 (I fun _ => 0)).setRow _)
      have HB5 := Lib.hid (show Below w.heap.size w ((((w4.alloc (.cells (row 121 (I fun _ => 0)) 65)).alloc (.cells (row 121 (I fun _ => 0)) 65)).setRow w4.heap.size (row 121 (I (tabF x n)))).setRow (w4.heap.size + 1) (row 121 (I (tabF y m)))) from below_setRow (below_setRow ((HB4.out.alloc HB4.out.size _).alloc (by have := HB4.out.size; simp; omega) _) HB4.out.size _) (by have := HB4.out.size; omega) _)
      clear Z1 Z2
      generalize hw5 : ((((w4.alloc (.cells (row 121 (I fun _ => 0)) 65)).alloc (.cells (row 121 (I fun _ => 0)) 65)).setRow w4.heap.size (row 121 (I (tabF x n)))).setRow (w4.heap.size + 1) (row 121 (I (tabF y m)))) = w5 at X5 Y5 HB5 ⊢
      clear hw5
      go_loopw [21] (fun i wr => ∃ s : Nat, s ≤ 121 ∧ i = .int .i64 (s : Int) ∧ Hid (∀ j, j < s → (tabF x n j * (sixN m : Int) == tabF y m j * (sixN n : Int)) = true) ∧ Blk wr w4.heap.size 121 65 (I (tabF x n)) ∧ Blk wr (w4.heap.size + 1) 121 65 (I (tabF y m)) ∧ Below w.heap.size w wr) (fun i _ => 122 - (intOf i).toNat)
      case atStart => exact ⟨0, by omega, rfl, (fun j hj => by omega), X5.out, Y5.out, HB5.out⟩
      case round =>
        obtain ⟨s, hs, rfl, HO, hX, hY, hb⟩ := hrel
        clear X5 Y5 HB5
        have HB := Lib.hid hb; have HX := Lib.hid hX; have HY := Lib.hid hY
        clear hb
        by_cases hlt : s < 121
        · have d1 : decide ((s : Int) < 121) = true := by simp; omega
          have c1 : wr.cell? ⟨w4.heap.size, s, none⟩ = some (.int .i64 (tabF x n s)) := hX.cell hlt
          have c2 : wr.cell? ⟨w4.heap.size + 1, s, none⟩ = some (.int .i64 (tabF y m s)) := hY.cell hlt
          obtain ⟨e1, e2⟩ := prod_bd (B1.out s hlt) SM.out
          obtain ⟨e3, e4⟩ := prod_bd (B3.out s hlt) SN.out
          clear hX hY
          cases gq : (tabF x n s * (sixN m : Int) == tabF y m s * (sixN n : Int))
          all_goals
            have GQ := Lib.hid gq
            go_wp2
            go_quiet ((first | (go_at_call 68; with_reducible exact quiet_eq (power_any n n8 _)) | (go_at_call 68; with_reducible exact quiet_eq (power_any m m8 _))))
            go_wp2
            first
              | (go_ret2
                 exact ⟨by rw [sameB_no hlt GQ.out]; rfl, below_drewN HB.out _⟩)
              | (go_roundw
                 case rel => exact ⟨s + 1, by omega, by go_num, (fun j hj => if e : j = s then e ▸ GQ.out else HO.out j (by omega)), HX.out.drewN _, HY.out.drewN _, below_drewN HB.out _⟩
                 case measure => simp [intOf]; omega)
        · have HF := Lib.hid (sameB_yes G1.out G2.out (fun j hj => HO.out j (by omega)))
          clear hX hY
          have d1 : decide ((s : Int) < 121) = false := by simp; omega
          go_wp2
          go_ret2
          exact ⟨by rw [HF.out]; rfl, HB.out⟩
end Go.Proofs.Ytiibpnhjdfjdkaa
