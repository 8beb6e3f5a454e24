/- Contracts of functions of this program, used by the laws of this seat. No condition beyond what each theorem states. -/
import Derived.Test.YtmhlfpcndgoemaaSafest2
set_option linter.unusedVariables false
set_option linter.unusedSimpArgs false
set_option linter.unusedSectionVars false
namespace Go.Proofs.Ytmhlfpcndgoemaa
open Go.RowKit
def bestF (x : Nat → Nat → Int) (d : Nat → Int) : Nat → Int × Int
  | 0 => (0, -1)
  | k + 1 => if (bestF x d k).2 < cmpAll (x k) d 6 0 then ((k : Int), cmpAll (x k) d 6 0) else bestF x d k
noncomputable def bestB (n : Nat) (x : Nat → Nat → Int) (d : Nat → Int) : Bool := rowB n x && dieB d
noncomputable def bestV (n : Nat) (x : Nat → Nat → Int) (d : Nat → Int) : Int × Int := if bestB n x d then bestF x d n else (0, 0)

set_option maxHeartbeats 1000000 in
theorem sBestAgainst_any (o : Option Addr) (n c : Nat) (x : Nat → Nat → Int) (hn : n ≤ 1048576) (d : Nat → Int) (w : World) (h : PoolAt w o n x) : Calls Try.prog 87 #[poolV o n c, dieV d] w fun e w' => e = .returned (.tuple #[.int .i64 (bestV n x d).1, .int .i64 (bestV n x d).2, .bool (bestB n x d)]) ∧ Below w.heap.size w w' := by
  have H := Lib.hid h; clear h
  cases g : rowB n x
  · have HL := Lib.hid (show bestV n x d = (0, 0) by unfold bestV bestB; rw [g]; rfl)
    have hb : bestB n x d = false := by unfold bestB; rw [g]; rfl
    rw [HL.out, hb]
    go_enter Try.func87, Try.ntmps87
    go_wp2_with fail
    go_at_call 158
    refine (l3Row_any o n c x hn _ (H.out.alloc _)).mono ?_
    rintro e w1 ⟨rfl, hb1⟩
    have HB1 := Lib.hid hb1; clear hb1
    have A1 := Lib.hid (show Blk w1 w.heap.size 6 22 (I d) from (Blk.new _ _ _ _).below HB1.out (by simp))
    have HB1 := Lib.hid (((Below.refl w.heap.size w).alloc (by omega) _).trans (HB1.out.mono (by simp)))
    rw [g]
    go_wp2
    go_ret3
    exact ⟨rfl, HB1.out⟩
  · cases g2 : dieB d
    · have HL := Lib.hid (show bestV n x d = (0, 0) by unfold bestV bestB; rw [g, g2]; rfl)
      have hb : bestB n x d = false := by unfold bestB; rw [g, g2]; rfl
      rw [HL.out, hb]
      go_enter Try.func87, Try.ntmps87
      go_wp2_with fail
      go_at_call 158
      refine (l3Row_any o n c x hn _ (H.out.alloc _)).mono ?_
      rintro e w1 ⟨rfl, hb1⟩
      have HB1 := Lib.hid hb1; clear hb1
      have A1 := Lib.hid (show Blk w1 w.heap.size 6 22 (I d) from (Blk.new _ _ _ _).below HB1.out (by simp))
      have HB1 := Lib.hid (((Below.refl w.heap.size w).alloc (by omega) _).trans (HB1.out.mono (by simp)))
      rw [g]
      go_wp2_with (first | (refine wpList_load_blk rfl 22 _ rfl (A1.out) rfl Try.underlying22 sz6 ?_) | fail)
      go_at_call 129
      refine (l2Die_any d _).mono ?_
      rintro e w2 ⟨rfl, hb2⟩
      have A2 := Lib.hid (A1.out.below hb2 A1.out.lt)
      have HB2 := Lib.hid (HB1.out.trans (hb2.mono HB1.out.size)); clear hb2
      rw [g2]
      go_wp2
      go_ret3
      exact ⟨rfl, HB2.out⟩
    · obtain ⟨n1, n6⟩ := row_le g
      have HL := Lib.hid (show bestV n x d = bestF x d n by unfold bestV bestB; rw [g, g2]; rfl)
      have hb : bestB n x d = true := by unfold bestB; rw [g, g2]; rfl
      rw [HL.out, hb]
      go_enter Try.func87, Try.ntmps87
      go_wp2_with fail
      go_at_call 158
      refine (l3Row_any o n c x hn _ (H.out.alloc _)).mono ?_
      rintro e w1 ⟨rfl, hb1⟩
      have HB1 := Lib.hid hb1; clear hb1
      have A1 := Lib.hid (show Blk w1 w.heap.size 6 22 (I d) from (Blk.new _ _ _ _).below HB1.out (by simp))
      have HB1 := Lib.hid (((Below.refl w.heap.size w).alloc (by omega) _).trans (HB1.out.mono (by simp)))
      rw [g]
      go_wp2_with (first | (refine wpList_load_blk rfl 22 _ rfl (A1.out) rfl Try.underlying22 sz6 ?_) | fail)
      go_at_call 129
      refine (l2Die_any d _).mono ?_
      rintro e w2 ⟨rfl, hb2⟩
      have A2 := Lib.hid (A1.out.below hb2 A1.out.lt)
      have HB2 := Lib.hid (HB1.out.trans (hb2.mono HB1.out.size)); clear hb2
      rw [g2]
      clear g g2 hb
      go_wp2
      go_loopw [7, 8, 9] (fun best most i wr => ∃ k : Nat, k ≤ n ∧ i = .int .i64 k ∧ best = .int .i64 (bestF x d k).1 ∧ most = .int .i64 (bestF x d k).2 ∧ Blk wr w.heap.size 6 22 (I d) ∧ Below w.heap.size w wr) (fun best most i _ => n - (intOf i).toNat)
      case atStart => exact ⟨0, by omega, rfl, rfl, rfl, A2.out, HB2.out⟩
      case round =>
        obtain ⟨k, hk, rfl, rfl, rfl, hA, hb⟩ := hrel
        have A3 := Lib.hid hA
        have HB3 := Lib.hid hb
        clear hA hb HB1 HB2 A1 A2
        by_cases hlt : k < n
        · obtain ⟨a1, rfl, hd⟩ := dice6 (H.out.below HB3.out) hlt
          have HD := Lib.hid hd
          have HC := Lib.hid (hd k hlt).2
          clear hd
          by_cases hm : (bestF x d k).2 < cmpAll (x k) d 6 0
          · have HM := Lib.hid (show bestF x d (k + 1) = ((k : Int), cmpAll (x k) d 6 0) by simp [bestF, hm])
            have d3 : decide ((bestF x d k).2 < cmpAll (x k) d 6 0) = true := by simp [hm]
            clear hm
            go_wp2
            refine wp_region_grown_lit (by kernel_rfl) (by kernel_rfl) ?_
            repeat (first | go_big_quiet_skip | (go_big_quiet_want; (first | (refine grown_load_pool _ rfl (HD.out) rfl ?_ ?_; omega; simp only [Act.put, List.setIfInBounds_toArray, List.set_cons_succ, List.set_cons_zero]; go_big_quiet_on) | (refine grown_load 22 _ rfl (A3.out) rfl Try.underlying22 sz6 ?_; simp only [Act.put, List.setIfInBounds_toArray, List.set_cons_succ, List.set_cons_zero]; go_big_quiet_on) | (refine grown_index3 _ rfl rfl ?_; simp only [Act.put, List.setIfInBounds_toArray, List.set_cons_succ, List.set_cons_zero]; go_big_quiet_on) | (go_big_quiet_op; (first | go_big_quiet_on | (refine ⟨_, fun _ _ => rfl, ?_⟩; go_big_quiet_on) | (apply Exists.intro; refine ⟨fun _ hC => ?_, ?_⟩; (first | (go_at_call 144; exact grown_of hC (l3Compare_any _ _ _))); go_big_quiet_on))))))
            refine wpQuiet_nil ?_
            intro wg hg
            have A4 := Lib.hid (A3.out.below hg.below A3.out.lt)
            have HB4 := Lib.hid (HB3.out.trans (hg.below.mono HB3.out.size))
            clear hg
            go_wp2
            go_roundw
            case rel => exact ⟨k + 1, by omega, by go_num, by rw [HM.out], by rw [HM.out], A4.out, HB4.out⟩
            case measure => simp [intOf]; omega
          · have HM := Lib.hid (show bestF x d (k + 1) = bestF x d k by simp [bestF, hm])
            have d3 : decide ((bestF x d k).2 < cmpAll (x k) d 6 0) = false := by simp; omega
            clear hm
            go_wp2
            refine wp_region_grown_lit (by kernel_rfl) (by kernel_rfl) ?_
            repeat (first | go_big_quiet_skip | (go_big_quiet_want; (first | (refine grown_load_pool _ rfl (HD.out) rfl ?_ ?_; omega; simp only [Act.put, List.setIfInBounds_toArray, List.set_cons_succ, List.set_cons_zero]; go_big_quiet_on) | (refine grown_load 22 _ rfl (A3.out) rfl Try.underlying22 sz6 ?_; simp only [Act.put, List.setIfInBounds_toArray, List.set_cons_succ, List.set_cons_zero]; go_big_quiet_on) | (refine grown_index3 _ rfl rfl ?_; simp only [Act.put, List.setIfInBounds_toArray, List.set_cons_succ, List.set_cons_zero]; go_big_quiet_on) | (go_big_quiet_op; (first | go_big_quiet_on | (refine ⟨_, fun _ _ => rfl, ?_⟩; go_big_quiet_on) | (apply Exists.intro; refine ⟨fun _ hC => ?_, ?_⟩; (first | (go_at_call 144; exact grown_of hC (l3Compare_any _ _ _))); go_big_quiet_on))))))
            refine wpQuiet_nil ?_
            intro wg hg
            have A4 := Lib.hid (A3.out.below hg.below A3.out.lt)
            have HB4 := Lib.hid (HB3.out.trans (hg.below.mono HB3.out.size))
            clear hg
            go_wp2
            go_roundw
            case rel => exact ⟨k + 1, by omega, by go_num, by rw [HM.out], by rw [HM.out], A4.out, HB4.out⟩
            case measure => simp [intOf]; omega
        · have e0 : k = n := by omega
          go_wp2
          go_ret3
          exact ⟨by (first | rfl | (rw [e0]; rfl)), HB3.out⟩

set_option maxHeartbeats 1000000 in
theorem iBestAgainst_any (o : Option Addr) (n c : Nat) (x : Nat → Nat → Int) (hn : n ≤ 1048576) (d : Nat → Int) (w : World) (h : PoolAt w o n x) : Calls Try.prog 88 #[poolV o n c, dieV d] w fun e w' => e = .returned (.tuple #[.int .i64 (bestV n x d).1, .int .i64 (bestV n x d).2, .bool (bestB n x d)]) ∧ Below w.heap.size w w' := by
  have H := Lib.hid h; clear h
  cases g : rowB n x
  · have HL := Lib.hid (show bestV n x d = (0, 0) by unfold bestV bestB; rw [g]; rfl)
    have hb : bestB n x d = false := by unfold bestB; rw [g]; rfl
    rw [HL.out, hb]
    go_enter Try.func88, Try.ntmps88
    go_wp2_with fail
    go_at_call 159
    refine (isRow_any o n c x hn _ (H.out.alloc _)).mono ?_
    rintro e w1 ⟨rfl, hb1⟩
    have HB1 := Lib.hid hb1; clear hb1
    have A1 := Lib.hid (show Blk w1 w.heap.size 6 22 (I d) from (Blk.new _ _ _ _).below HB1.out (by simp))
    have HB1 := Lib.hid (((Below.refl w.heap.size w).alloc (by omega) _).trans (HB1.out.mono (by simp)))
    rw [g]
    go_wp2
    go_ret3
    exact ⟨rfl, HB1.out⟩
  · cases g2 : dieB d
    · have HL := Lib.hid (show bestV n x d = (0, 0) by unfold bestV bestB; rw [g, g2]; rfl)
      have hb : bestB n x d = false := by unfold bestB; rw [g, g2]; rfl
      rw [HL.out, hb]
      go_enter Try.func88, Try.ntmps88
      go_wp2_with fail
      go_at_call 159
      refine (isRow_any o n c x hn _ (H.out.alloc _)).mono ?_
      rintro e w1 ⟨rfl, hb1⟩
      have HB1 := Lib.hid hb1; clear hb1
      have A1 := Lib.hid (show Blk w1 w.heap.size 6 22 (I d) from (Blk.new _ _ _ _).below HB1.out (by simp))
      have HB1 := Lib.hid (((Below.refl w.heap.size w).alloc (by omega) _).trans (HB1.out.mono (by simp)))
      rw [g]
      go_wp2_with (first | (refine wpList_load_blk rfl 22 _ rfl (A1.out) rfl Try.underlying22 sz6 ?_) | fail)
      go_at_call 40
      refine (isDie_any d _).mono ?_
      rintro e w2 ⟨rfl, hb2⟩
      have A2 := Lib.hid (A1.out.below hb2 A1.out.lt)
      have HB2 := Lib.hid (HB1.out.trans (hb2.mono HB1.out.size)); clear hb2
      rw [g2]
      go_wp2
      go_ret3
      exact ⟨rfl, HB2.out⟩
    · obtain ⟨n1, n6⟩ := row_le g
      have HL := Lib.hid (show bestV n x d = bestF x d n by unfold bestV bestB; rw [g, g2]; rfl)
      have hb : bestB n x d = true := by unfold bestB; rw [g, g2]; rfl
      rw [HL.out, hb]
      go_enter Try.func88, Try.ntmps88
      go_wp2_with fail
      go_at_call 159
      refine (isRow_any o n c x hn _ (H.out.alloc _)).mono ?_
      rintro e w1 ⟨rfl, hb1⟩
      have HB1 := Lib.hid hb1; clear hb1
      have A1 := Lib.hid (show Blk w1 w.heap.size 6 22 (I d) from (Blk.new _ _ _ _).below HB1.out (by simp))
      have HB1 := Lib.hid (((Below.refl w.heap.size w).alloc (by omega) _).trans (HB1.out.mono (by simp)))
      rw [g]
      go_wp2_with (first | (refine wpList_load_blk rfl 22 _ rfl (A1.out) rfl Try.underlying22 sz6 ?_) | fail)
      go_at_call 40
      refine (isDie_any d _).mono ?_
      rintro e w2 ⟨rfl, hb2⟩
      have A2 := Lib.hid (A1.out.below hb2 A1.out.lt)
      have HB2 := Lib.hid (HB1.out.trans (hb2.mono HB1.out.size)); clear hb2
      rw [g2]
      clear g g2 hb
      go_wp2
      go_loopw [7, 8, 22] (fun best most i wr => ∃ k : Nat, k ≤ n ∧ i = .int .i64 k ∧ best = .int .i64 (bestF x d k).1 ∧ most = .int .i64 (bestF x d k).2 ∧ Blk wr w.heap.size 6 22 (I d) ∧ Below w.heap.size w wr) (fun best most i _ => n - (intOf i).toNat)
      case atStart => exact ⟨0, by omega, rfl, rfl, rfl, A2.out, HB2.out⟩
      case round =>
        obtain ⟨k, hk, rfl, rfl, rfl, hA, hb⟩ := hrel
        have A3 := Lib.hid hA
        have HB3 := Lib.hid hb
        clear hA hb HB1 HB2 A1 A2
        by_cases hlt : k < n
        · obtain ⟨a1, rfl, hd⟩ := dice6 (H.out.below HB3.out) hlt
          have HD := Lib.hid hd
          have HC := Lib.hid (hd k hlt).2
          clear hd
          by_cases hm : (bestF x d k).2 < cmpAll (x k) d 6 0
          · have HM := Lib.hid (show bestF x d (k + 1) = ((k : Int), cmpAll (x k) d 6 0) by simp [bestF, hm])
            have d3 : decide ((bestF x d k).2 < cmpAll (x k) d 6 0) = true := by simp [hm]
            clear hm
            go_wp2_with (first | ((with_reducible apply wpList_load_cells); (case hw => rfl); (case ho => rfl); (case hx => rfl); (case hc => with_reducible exact HC.out); (case ha => exact Try.isAgg22); (case hi => exact sz6)) | (refine wpList_alloc_blk rfl 22 rfl zero6 ?_) | (((with_reducible apply wpList_store_new); (case hw => rfl); (case ho => rfl); (case hx => rfl); (case hy => rfl); (case hg => rfl); (case hi => exact sz6); (case h1 => exact fun _ _ => rfl))) | ((with_reducible apply wpList_load_blk); (case hw => rfl); (case ho => rfl); (case hx => rfl); (case hb => with_reducible exact A3.out.alloc _); (case hu => exact Try.underlying22); (case hi => exact sz6)) | ((with_reducible apply wpList_load_blk); (case hw => rfl); (case ho => rfl); (case hx => rfl); (case hb => with_reducible exact Blk.new _ _ _ _); (case hu => exact Try.underlying22); (case hi => exact sz6)) | fail)
            go_at_call 145
            refine (compared_any (x k) d _).mono ?_
            rintro e w2 ⟨rfl, hb2⟩
            have A4 := Lib.hid ((A3.out.alloc _).below hb2 (by have := A3.out.lt; simp; omega))
            have HB4 := Lib.hid ((HB3.out.alloc HB3.out.size _).trans (hb2.mono (by have := HB3.out.size; simp; omega)))
            clear hb2
            go_wp2_with (first | (((with_reducible apply wpList_index3); (case hw => rfl); (case ho => rfl); (case hx => rfl))) | fail)
            go_roundw
            case rel => exact ⟨k + 1, by omega, by go_num, by rw [HM.out], by rw [HM.out], A4.out, HB4.out⟩
            case measure => simp [intOf]; omega
          · have HM := Lib.hid (show bestF x d (k + 1) = bestF x d k by simp [bestF, hm])
            have d3 : decide ((bestF x d k).2 < cmpAll (x k) d 6 0) = false := by simp; omega
            clear hm
            go_wp2_with (first | ((with_reducible apply wpList_load_cells); (case hw => rfl); (case ho => rfl); (case hx => rfl); (case hc => with_reducible exact HC.out); (case ha => exact Try.isAgg22); (case hi => exact sz6)) | (refine wpList_alloc_blk rfl 22 rfl zero6 ?_) | (((with_reducible apply wpList_store_new); (case hw => rfl); (case ho => rfl); (case hx => rfl); (case hy => rfl); (case hg => rfl); (case hi => exact sz6); (case h1 => exact fun _ _ => rfl))) | ((with_reducible apply wpList_load_blk); (case hw => rfl); (case ho => rfl); (case hx => rfl); (case hb => with_reducible exact A3.out.alloc _); (case hu => exact Try.underlying22); (case hi => exact sz6)) | ((with_reducible apply wpList_load_blk); (case hw => rfl); (case ho => rfl); (case hx => rfl); (case hb => with_reducible exact Blk.new _ _ _ _); (case hu => exact Try.underlying22); (case hi => exact sz6)) | fail)
            go_at_call 145
            refine (compared_any (x k) d _).mono ?_
            rintro e w2 ⟨rfl, hb2⟩
            have A4 := Lib.hid ((A3.out.alloc _).below hb2 (by have := A3.out.lt; simp; omega))
            have HB4 := Lib.hid ((HB3.out.alloc HB3.out.size _).trans (hb2.mono (by have := HB3.out.size; simp; omega)))
            clear hb2
            go_wp2_with (first | (((with_reducible apply wpList_index3); (case hw => rfl); (case ho => rfl); (case hx => rfl))) | fail)
            go_roundw
            case rel => exact ⟨k + 1, by omega, by go_num, by rw [HM.out], by rw [HM.out], A4.out, HB4.out⟩
            case measure => simp [intOf]; omega
        · have e0 : k = n := by omega
          go_wp2
          go_ret3
          exact ⟨by (first | rfl | (rw [e0]; rfl)), HB3.out⟩

end Go.Proofs.Ytmhlfpcndgoemaa
