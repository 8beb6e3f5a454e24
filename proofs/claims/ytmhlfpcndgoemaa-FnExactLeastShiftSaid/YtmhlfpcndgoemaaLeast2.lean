/- Contracts of functions of this program, used by the laws of this seat. No condition beyond what each theorem states. -/
import Derived.Test.YtmhlfpcndgoemaaLeast
set_option linter.unusedVariables false
set_option linter.unusedSimpArgs false
set_option linter.unusedSectionVars false
namespace Go.Proofs.Ytmhlfpcndgoemaa
open Go.RowKit

set_option maxHeartbeats 1000000 in
theorem sLeastShift_any (a b : Nat → Int) (w : World) : Calls Try.prog 70 #[dieV a, dieV b] w fun x w' => x = .returned (.tuple #[.int .i64 (leastV a b).1, .bool (leastV a b).2]) ∧ Below w.heap.size w w' := by
  cases ha : dieB a
  · have HL := Lib.hid (show leastV a b = (0, false) by unfold leastV bothD; rw [ha]; rfl)
    rw [HL.out]
    go_enter Try.func70, Try.ntmps70
    go_wp2_with (first | (refine wpList_load_blk rfl 22 _ rfl ((Blk.new _ _ _ _).alloc _) rfl Try.underlying22 sz6 ?_) | fail)
    go_at_call 129
    refine (l2Die_any a _).mono ?_
    rintro e w1 ⟨rfl, hb1⟩
    have HB1 := Lib.hid hb1; clear hb1
    have A1 := Lib.hid (show Blk w1 w.heap.size 6 22 (I a) from ((Blk.new _ _ _ _).alloc _).below HB1.out (by simp; omega))
    have B1 := Lib.hid (show Blk w1 (w.heap.size + 1) 6 22 (I b) from (Blk.newS (by simp)).below HB1.out (by simp))
    have HB1 := Lib.hid ((((Below.refl w.heap.size w).alloc (by omega) _).alloc (by simp) _).trans (HB1.out.mono (by simp; omega)))
    rw [ha]
    go_wp2
    go_ret2
    exact ⟨rfl, HB1.out⟩
  · cases hb : dieB b
    · have HL := Lib.hid (show leastV a b = (0, false) by unfold leastV bothD; rw [ha, hb]; rfl)
      rw [HL.out]
      go_enter Try.func70, Try.ntmps70
      go_wp2_with (first | (refine wpList_load_blk rfl 22 _ rfl ((Blk.new _ _ _ _).alloc _) rfl Try.underlying22 sz6 ?_) | fail)
      go_at_call 129
      refine (l2Die_any a _).mono ?_
      rintro e w1 ⟨rfl, hb1⟩
      have HB1 := Lib.hid hb1; clear hb1
      have A1 := Lib.hid (show Blk w1 w.heap.size 6 22 (I a) from ((Blk.new _ _ _ _).alloc _).below HB1.out (by simp; omega))
      have B1 := Lib.hid (show Blk w1 (w.heap.size + 1) 6 22 (I b) from (Blk.newS (by simp)).below HB1.out (by simp))
      have HB1 := Lib.hid ((((Below.refl w.heap.size w).alloc (by omega) _).alloc (by simp) _).trans (HB1.out.mono (by simp; omega)))
      rw [ha]
      go_wp2_with (first | (refine wpList_load_blk rfl 22 _ rfl (B1.out) rfl Try.underlying22 sz6 ?_) | fail)
      go_at_call 129
      refine (l2Die_any b _).mono ?_
      rintro e w2 ⟨rfl, hb2⟩
      have A2 := Lib.hid (A1.out.below hb2 A1.out.lt)
      have B2 := Lib.hid (B1.out.below hb2 B1.out.lt)
      have HB2 := Lib.hid (HB1.out.trans (hb2.mono HB1.out.size)); clear hb2
      rw [hb]
      go_wp2
      go_ret2
      exact ⟨rfl, HB2.out⟩
    · obtain ⟨N, hN0⟩ : ∃ N : Nat, N = (31 - a 5).toNat := ⟨_, rfl⟩
      have HL := Lib.hid (show leastV a b = lsh a b N 0 by unfold leastV bothD; rw [ha, hb, hN0]; rfl)
      have HS := Lib.hid (small_of ha)
      have DS := Lib.hid (die_shift ha)
      have hN : (N : Int) = 31 - a 5 := by have := HS.out 5 (by omega); omega
      have hN1 : N ≤ 31 := by have := HS.out 5 (by omega); omega
      clear hN0
      rw [HL.out]
      go_enter Try.func70, Try.ntmps70
      go_wp2_with (first | (refine wpList_load_blk rfl 22 _ rfl ((Blk.new _ _ _ _).alloc _) rfl Try.underlying22 sz6 ?_) | fail)
      go_at_call 129
      refine (l2Die_any a _).mono ?_
      rintro e w1 ⟨rfl, hb1⟩
      have HB1 := Lib.hid hb1; clear hb1
      have A1 := Lib.hid (show Blk w1 w.heap.size 6 22 (I a) from ((Blk.new _ _ _ _).alloc _).below HB1.out (by simp; omega))
      have B1 := Lib.hid (show Blk w1 (w.heap.size + 1) 6 22 (I b) from (Blk.newS (by simp)).below HB1.out (by simp))
      have HB1 := Lib.hid ((((Below.refl w.heap.size w).alloc (by omega) _).alloc (by simp) _).trans (HB1.out.mono (by simp; omega)))
      rw [ha]
      go_wp2_with (first | (refine wpList_load_blk rfl 22 _ rfl (B1.out) rfl Try.underlying22 sz6 ?_) | fail)
      go_at_call 129
      refine (l2Die_any b _).mono ?_
      rintro e w2 ⟨rfl, hb2⟩
      have A2 := Lib.hid (A1.out.below hb2 A1.out.lt)
      have B2 := Lib.hid (B1.out.below hb2 B1.out.lt)
      have HB2 := Lib.hid (HB1.out.trans (hb2.mono HB1.out.size)); clear hb2
      rw [hb]
      clear ha hb
      go_wp2
      go_loopw [6] (fun s wr => ∃ k : Nat, k ≤ N ∧ s = .int .i64 k ∧ lsh a b (N - k) k = lsh a b N 0 ∧ Blk wr w.heap.size 6 22 (I a) ∧ Blk wr (w.heap.size + 1) 6 22 (I b) ∧ Below w.heap.size w wr) (fun s _ => 31 - (intOf s).toNat)
      case atStart => exact ⟨0, by omega, rfl, rfl, A2.out, B2.out, HB2.out⟩
      case round =>
        obtain ⟨k, hk, rfl, hl, hA, hB, hb⟩ := hrel
        have c5 : wr.cell? ⟨w.heap.size, 5, none⟩ = some (.int .i64 (a 5)) := hA.cell (by omega)
        have A5 := Lib.hid hA; have B5 := Lib.hid hB; have HB5 := Lib.hid hb; have HK := Lib.hid hl
        obtain ⟨r1, r2⟩ := HS.out 5 (by omega)
        clear hA hB hb hl A1 B1 HB1 A2 B2 HB2
        obtain ⟨wo, rfl⟩ : ∃ wo : World, wo = wr := ⟨_, rfl⟩
        by_cases hlt : k < N
        · have d5 : decide (a 5 + (k : Int) ≤ 30) = true := by simp; omega
          cases gb : beatB (fun i => a i + (k : Int)) b
          all_goals
            have G := Lib.hid gb; clear gb
            go_wp2_with (first | (refine wpList_load_blk rfl 22 _ rfl (A5.out) rfl Try.underlying22 sz6 ?_) | (refine wpList_alloc_blk rfl 22 rfl zero6 ?_) | (((with_reducible apply wpList_store_new); (case hw => rfl); (case ho => rfl); (case hx => rfl); (case hy => rfl); (case hg => rfl); (case hi => exact sz6); (case h1 => exact fun _ _ => rfl))) | fail)
            go_loopw [8] (fun v wr => ∃ m : Nat, m ≤ 6 ∧ v = .int .i64 m ∧ Blk wr w.heap.size 6 22 (I a) ∧ Blk wr (w.heap.size + 1) 6 22 (I b) ∧ Blk wr wo.heap.size 6 22 (I fun j => if j < m then a j + (k : Int) else a j) ∧ Below w.heap.size w wr) (fun v _ => 6 - (intOf v).toNat)
            case atStart => exact ⟨0, by omega, rfl, A5.out.alloc _, B5.out.alloc _, Blk.ext (f := I a) (Blk.new _ _ _ _) (fun i _ => by simp [I]), HB5.out.alloc HB5.out.size _⟩
            case round =>
              obtain ⟨m, hm, rfl, hA, hB, hT, hb⟩ := hrel
              have n1 : wo.heap.size ≠ w.heap.size := by have := A5.out.lt; omega
              have n2 : wo.heap.size ≠ w.heap.size + 1 := by have := B5.out.lt; omega
              have hs := HB5.out.size
              by_cases hlm : m < 6
              · obtain ⟨g1, g2⟩ := HS.out m hlm
                have cm : wr.cell? ⟨w.heap.size, m, none⟩ = some (.int .i64 (a m)) := hA.cell hlm
                have ct : wr.cell? ⟨wo.heap.size, m, none⟩ = some (I (fun j => if j < m then a j + (k : Int) else a j) m) := hT.cell hlm
                have f0 := hT.free m
                have A6 := Lib.hid hA; have B6 := Lib.hid hB; have T6 := Lib.hid hT; have HB6 := Lib.hid hb
                have N1 := Lib.hid n1; have N2 := Lib.hid n2; have N3 := Lib.hid hs
                clear hA hB hT hb n1 n2 hs A5 B5 HB5
                go_wp2
                go_roundw
                case rel =>
                  refine ⟨m + 1, by omega, by go_num, A6.out.other _ _ (Ne.symm N1.out), B6.out.other _ _ (Ne.symm N2.out), (T6.out.set hlm _).ext (fun j _ => ?_), HB6.out.setCell N3.out _⟩
                  simp only [upd, I]
                  by_cases e : j = m
                  · subst e; simp
                  · rw [if_neg e]; by_cases e2 : j < m
                    · rw [if_pos e2, if_pos (by omega)]
                    · rw [if_neg e2, if_neg (by omega)]
                case measure => simp [intOf]; omega
              · obtain rfl : m = 6 := by omega
                have A6 := Lib.hid hA; have B6 := Lib.hid hB; have T6 := Lib.hid (Blk.ext (g := I fun j => a j + (k : Int)) hT (fun j hj => by simp [I, hj])); have HB6 := Lib.hid hb
                clear hA hB hT hb n1 n2 hs A5 B5 HB5
                go_wp2_with (first | (refine wpList_load_blk rfl 22 _ rfl (T6.out) rfl Try.underlying22 sz6 ?_) | (refine wpList_load_blk rfl 22 _ rfl (B6.out) rfl Try.underlying22 sz6 ?_) | fail)
                go_at_call 146
                refine (l3Beats_any (fun j => a j + (k : Int)) b _).mono ?_
                rintro e w7 ⟨rfl, hb7⟩
                have A7 := Lib.hid (A6.out.below hb7 A6.out.lt)
                have B7 := Lib.hid (B6.out.below hb7 B6.out.lt)
                have HB7 := Lib.hid (HB6.out.trans (hb7.mono HB6.out.size)); clear hb7
                rw [G.out]
                go_wp2
                first
                  | (go_roundw
                     case rel => exact ⟨k + 1, by omega, by go_num, (lsh_miss hlt G.out).symm.trans HK.out, A7.out, B7.out, HB7.out⟩
                     case measure => simp [intOf]; omega)
                  | (go_ret2
                     exact ⟨by rw [← (lsh_hit hlt G.out).symm.trans HK.out]; rfl, HB7.out⟩)
        · have e0 : N - k = 0 := by omega
          have HZ := Lib.hid (show lsh a b N 0 = (0, false) by rw [← HK.out, e0]; rfl)
          clear e0
          have d5 : decide (a 5 + (k : Int) ≤ 30) = false := by simp; omega
          go_wp2
          go_ret2
          exact ⟨by rw [HZ.out]; rfl, HB5.out⟩
end Go.Proofs.Ytmhlfpcndgoemaa
