/- Contracts of functions of this program, used by the laws of this seat. No condition beyond what each theorem states. -/
import Derived.Test.YtmhlfpcndgoemaaLess
import Derived.Test.YtmhlfpcndgoemaaTurn2
set_option linter.unusedVariables false
set_option linter.unusedSimpArgs false
set_option linter.unusedSectionVars false
namespace Go.Proofs.Ytmhlfpcndgoemaa
open Go.RowKit
def lsh (a b : Nat → Int) : Nat → Nat → Int × Bool
  | 0, _ => (0, false)
  | n + 1, s => if beatB (fun i => a i + (s : Int)) b = true then ((s : Int), true) else lsh a b n (s + 1)
noncomputable def leastV (a b : Nat → Int) : Int × Bool := if bothD a b then lsh a b (31 - a 5).toNat 0 else (0, false)
theorem lsh_hit {a b : Nat → Int} {N k : Nat} (hk : k < N) (h : beatB (fun i => a i + (k : Int)) b = true) : lsh a b (N - k) k = ((k : Int), true) := by
  obtain ⟨m, hm⟩ : ∃ m, N - k = m + 1 := ⟨N - k - 1, by omega⟩
  rw [hm]; simp [lsh, h]
theorem lsh_miss {a b : Nat → Int} {N k : Nat} (hk : k < N) (h : beatB (fun i => a i + (k : Int)) b = false) : lsh a b (N - k) k = lsh a b (N - (k + 1)) (k + 1) := by
  obtain ⟨m, hm⟩ : ∃ m, N - k = m + 1 := ⟨N - k - 1, by omega⟩
  rw [hm, show N - (k + 1) = m by omega]; simp [lsh, h]
theorem die_mono {d : Nat → Int} (h : Die d) : ∀ k, k < 6 → d k ≤ d 5 := by
  intro k hk
  have h1 := (h 1 (by omega)).2 (by omega); have h2 := (h 2 (by omega)).2 (by omega); have h3 := (h 3 (by omega)).2 (by omega); have h4 := (h 4 (by omega)).2 (by omega); have h5 := (h 5 (by omega)).2 (by omega)
  simp only [Nat.reduceSub] at h1 h2 h3 h4 h5
  match k, hk with
  | 0, _ => omega
  | 1, _ => omega
  | 2, _ => omega
  | 3, _ => omega
  | 4, _ => omega
  | 5, _ => omega
theorem die_of {d : Nat → Int} (h : dieB d = true) : Die d := by simpa [dieB] using h
theorem die_shift {d : Nat → Int} (h : dieB d = true) (k : Nat) : dieB (fun i => d i + (k : Int)) = decide (d 5 + (k : Int) ≤ 30) := by
  have hd := die_of h
  by_cases g : d 5 + (k : Int) ≤ 30
  · rw [decide_eq_true g]
    refine dieB_yes fun i hi => ?_
    have h1 := hd i hi
    have h2 := die_mono hd i hi
    have h3 := h1.2
    have h4 := h1.1
    refine ⟨by show 0 ≤ d i + (k : Int) ∧ d i + (k : Int) ≤ 30; omega, fun h0 => ?_⟩
    have := h3 h0
    show d (i - 1) + (k : Int) ≤ d i + (k : Int)
    omega
  · rw [decide_eq_false g]
    refine dieB_no (k := 5) (by omega) fun h' => ?_
    have : d 5 + (k : Int) ≤ 30 := h'.1.2
    omega

set_option maxHeartbeats 1000000 in
theorem iLeastShift_any (a b : Nat → Int) (w : World) : Calls Try.prog 71 #[dieV a, dieV b] w fun x w' => x = .returned (.tuple #[.int .i64 (leastV a b).1, .bool (leastV a b).2]) ∧ Below w.heap.size w w' := by
  cases ha : dieB a
  · have HL := Lib.hid (show leastV a b = (0, false) by unfold leastV bothD; rw [ha]; rfl)
    rw [HL.out]
    go_enter Try.func71, Try.ntmps71
    go_wp2_with (first | (refine wpList_load_blk rfl 22 _ rfl ((Blk.new _ _ _ _).alloc _) rfl Try.underlying22 sz6 ?_) | fail)
    go_at_call 40
    refine (isDie_any a _).mono ?_
    rintro e w1 ⟨rfl, hb1⟩
    have HB1 := Lib.hid hb1; clear hb1
    have A1 := Lib.hid (show Blk w1 w.heap.size 6 22 (I a) from ((Blk.new _ _ _ _).alloc _).below HB1.out (by simp; omega))
    have B1 := Lib.hid (show Blk w1 (w.heap.size + 1) 6 22 (I b) from (Blk.newS (by simp)).below HB1.out (by simp))
    have HB1 := Lib.hid ((((Below.refl w.heap.size w).alloc (by omega) _).alloc (by simp) _).trans (HB1.out.mono (by simp; omega)))
    rw [ha]
    go_wp2
    go_ret2
    exact ⟨rfl, HB1.out⟩
  · cases hb : dieB b
    · have HL := Lib.hid (show leastV a b = (0, false) by unfold leastV bothD; rw [ha, hb]; rfl)
      rw [HL.out]
      go_enter Try.func71, Try.ntmps71
      go_wp2_with (first | (refine wpList_load_blk rfl 22 _ rfl ((Blk.new _ _ _ _).alloc _) rfl Try.underlying22 sz6 ?_) | fail)
      go_at_call 40
      refine (isDie_any a _).mono ?_
      rintro e w1 ⟨rfl, hb1⟩
      have HB1 := Lib.hid hb1; clear hb1
      have A1 := Lib.hid (show Blk w1 w.heap.size 6 22 (I a) from ((Blk.new _ _ _ _).alloc _).below HB1.out (by simp; omega))
      have B1 := Lib.hid (show Blk w1 (w.heap.size + 1) 6 22 (I b) from (Blk.newS (by simp)).below HB1.out (by simp))
      have HB1 := Lib.hid ((((Below.refl w.heap.size w).alloc (by omega) _).alloc (by simp) _).trans (HB1.out.mono (by simp; omega)))
      rw [ha]
      go_wp2_with (first | (refine wpList_load_blk rfl 22 _ rfl (B1.out) rfl Try.underlying22 sz6 ?_) | fail)
      go_at_call 40
      refine (isDie_any b _).mono ?_
      rintro e w2 ⟨rfl, hb2⟩
      have A2 := Lib.hid (A1.out.below hb2 A1.out.lt)
      have B2 := Lib.hid (B1.out.below hb2 B1.out.lt)
      have HB2 := Lib.hid (HB1.out.trans (hb2.mono HB1.out.size)); clear hb2
      rw [hb]
      go_wp2
      go_ret2
      exact ⟨rfl, HB2.out⟩
    · obtain ⟨N, hN0⟩ : ∃ N : Nat, N = (31 - a 5).toNat := ⟨_, rfl⟩
      have HL := Lib.hid (show leastV a b = lsh a b N 0 by unfold leastV bothD; rw [ha, hb, hN0]; rfl)
      have HS := Lib.hid (small_of ha)
      have DS := Lib.hid (die_shift ha)
      have hN : (N : Int) = 31 - a 5 := by have := HS.out 5 (by omega); omega
      have hN1 : N ≤ 31 := by have := HS.out 5 (by omega); omega
      clear hN0
      rw [HL.out]
      go_enter Try.func71, Try.ntmps71
      go_wp2_with (first | (refine wpList_load_blk rfl 22 _ rfl ((Blk.new _ _ _ _).alloc _) rfl Try.underlying22 sz6 ?_) | fail)
      go_at_call 40
      refine (isDie_any a _).mono ?_
      rintro e w1 ⟨rfl, hb1⟩
      have HB1 := Lib.hid hb1; clear hb1
      have A1 := Lib.hid (show Blk w1 w.heap.size 6 22 (I a) from ((Blk.new _ _ _ _).alloc _).below HB1.out (by simp; omega))
      have B1 := Lib.hid (show Blk w1 (w.heap.size + 1) 6 22 (I b) from (Blk.newS (by simp)).below HB1.out (by simp))
      have HB1 := Lib.hid ((((Below.refl w.heap.size w).alloc (by omega) _).alloc (by simp) _).trans (HB1.out.mono (by simp; omega)))
      rw [ha]
      go_wp2_with (first | (refine wpList_load_blk rfl 22 _ rfl (B1.out) rfl Try.underlying22 sz6 ?_) | fail)
      go_at_call 40
      refine (isDie_any b _).mono ?_
      rintro e w2 ⟨rfl, hb2⟩
      have A2 := Lib.hid (A1.out.below hb2 A1.out.lt)
      have B2 := Lib.hid (B1.out.below hb2 B1.out.lt)
      have HB2 := Lib.hid (HB1.out.trans (hb2.mono HB1.out.size)); clear hb2
      rw [hb]
      clear ha hb
      go_wp2
      go_loopw [6] (fun s wr => ∃ k : Nat, k ≤ N ∧ s = .int .i64 k ∧ lsh a b (N - k) k = lsh a b N 0 ∧ Blk wr w.heap.size 6 22 (I a) ∧ Blk wr (w.heap.size + 1) 6 22 (I b) ∧ Below w.heap.size w wr) (fun s _ => 31 - (intOf s).toNat)
      case atStart => exact ⟨0, by omega, rfl, rfl, A2.out, B2.out, HB2.out⟩
      case round =>
        obtain ⟨k, hk, rfl, hl, hA, hB, hb⟩ := hrel
        have A5 := Lib.hid hA; have B5 := Lib.hid hB; have HB5 := Lib.hid hb; have HK := Lib.hid hl
        clear hA hB hb hl A1 B1 HB1 A2 B2 HB2
        by_cases hlt : k < N
        · have D1 := Lib.hid (show dieB (fun i => a i + (k : Int)) = true by rw [DS.out k]; simp; omega)
          cases gb : beatB (fun i => a i + (k : Int)) b
          · have G := Lib.hid ((lsh_miss hlt gb).symm.trans HK.out)
            have d1 : decide (0 < beatI (fun i => a i + (k : Int)) b) = false := by rw [beatI_pos, gb]
            clear gb
            go_wp2_with (first | (refine wpList_load_blk rfl 22 _ rfl (A5.out) rfl Try.underlying22 sz6 ?_) | fail)
            go_at_call 136
            refine (shifted_any a k HS.out (by omega) (by omega) _).mono ?_
            rintro e w6 ⟨rfl, hb6⟩
            have A6 := Lib.hid (A5.out.below hb6 A5.out.lt)
            have B6 := Lib.hid (B5.out.below hb6 B5.out.lt)
            have HB6 := Lib.hid (HB5.out.trans (hb6.mono HB5.out.size)); clear hb6
            go_wp2_with fail
            go_at_call 40
            refine (isDie_any _ _).mono ?_
            rintro e w7 ⟨rfl, hb7⟩
            have A7 := Lib.hid (A6.out.below hb7 A6.out.lt)
            have B7 := Lib.hid (B6.out.below hb7 B6.out.lt)
            have HB7 := Lib.hid (HB6.out.trans (hb7.mono HB6.out.size)); clear hb7
            rw [D1.out]
            go_wp2
            refine wp_region_grown_lit (by kernel_rfl) (by kernel_rfl) ?_
            repeat (first | go_big_quiet_skip | (go_big_quiet_want; (first | (refine grown_load 22 _ rfl (A7.out) rfl Try.underlying22 sz6 ?_; simp only [Act.put, List.setIfInBounds_toArray, List.set_cons_succ, List.set_cons_zero]; go_big_quiet_on) | (refine grown_load 22 _ rfl (B7.out) rfl Try.underlying22 sz6 ?_; simp only [Act.put, List.setIfInBounds_toArray, List.set_cons_succ, List.set_cons_zero]; go_big_quiet_on) | (go_big_quiet_op; (first | go_big_quiet_on | (refine ⟨_, fun _ _ => rfl, ?_⟩; go_big_quiet_on) | (apply Exists.intro; refine ⟨fun _ hC => ?_, ?_⟩; (first | (go_at_call 136; exact grown_of hC (shifted_any a _ HS.out (by omega) (by omega) _)) | (go_at_call 147; exact grown_of hC (beats_any _ _ _))); go_big_quiet_on))))))
            refine wpQuiet_nil ?_
            intro wg hg
            have A8 := Lib.hid (A7.out.below hg.below A7.out.lt); have B8 := Lib.hid (B7.out.below hg.below B7.out.lt); have HB8 := Lib.hid (HB7.out.trans (hg.below.mono HB7.out.size))
            clear hg
            go_wp2
            go_roundw
            case rel => exact ⟨k + 1, by omega, by go_num, G.out, A8.out, B8.out, HB8.out⟩
            case measure => simp [intOf]; omega
          · have G := Lib.hid ((lsh_hit hlt gb).symm.trans HK.out)
            have d1 : decide (0 < beatI (fun i => a i + (k : Int)) b) = true := by rw [beatI_pos, gb]
            clear gb
            go_wp2_with (first | (refine wpList_load_blk rfl 22 _ rfl (A5.out) rfl Try.underlying22 sz6 ?_) | fail)
            go_at_call 136
            refine (shifted_any a k HS.out (by omega) (by omega) _).mono ?_
            rintro e w6 ⟨rfl, hb6⟩
            have A6 := Lib.hid (A5.out.below hb6 A5.out.lt)
            have B6 := Lib.hid (B5.out.below hb6 B5.out.lt)
            have HB6 := Lib.hid (HB5.out.trans (hb6.mono HB5.out.size)); clear hb6
            go_wp2_with fail
            go_at_call 40
            refine (isDie_any _ _).mono ?_
            rintro e w7 ⟨rfl, hb7⟩
            have A7 := Lib.hid (A6.out.below hb7 A6.out.lt)
            have B7 := Lib.hid (B6.out.below hb7 B6.out.lt)
            have HB7 := Lib.hid (HB6.out.trans (hb7.mono HB6.out.size)); clear hb7
            rw [D1.out]
            go_wp2
            refine wp_region_grown_lit (by kernel_rfl) (by kernel_rfl) ?_
            repeat (first | go_big_quiet_skip | (go_big_quiet_want; (first | (refine grown_load 22 _ rfl (A7.out) rfl Try.underlying22 sz6 ?_; simp only [Act.put, List.setIfInBounds_toArray, List.set_cons_succ, List.set_cons_zero]; go_big_quiet_on) | (refine grown_load 22 _ rfl (B7.out) rfl Try.underlying22 sz6 ?_; simp only [Act.put, List.setIfInBounds_toArray, List.set_cons_succ, List.set_cons_zero]; go_big_quiet_on) | (go_big_quiet_op; (first | go_big_quiet_on | (refine ⟨_, fun _ _ => rfl, ?_⟩; go_big_quiet_on) | (apply Exists.intro; refine ⟨fun _ hC => ?_, ?_⟩; (first | (go_at_call 136; exact grown_of hC (shifted_any a _ HS.out (by omega) (by omega) _)) | (go_at_call 147; exact grown_of hC (beats_any _ _ _))); go_big_quiet_on))))))
            refine wpQuiet_nil ?_
            intro wg hg
            have HB8 := Lib.hid (HB7.out.trans (hg.below.mono HB7.out.size))
            clear hg
            go_wp2
            go_ret2
            exact ⟨by rw [← G.out]; rfl, HB8.out⟩
        · have e0 : N - k = 0 := by omega
          have HZ := Lib.hid (show lsh a b N 0 = (0, false) by rw [← HK.out, e0]; rfl)
          clear e0
          have D1 := Lib.hid (show dieB (fun i => a i + (k : Int)) = false by rw [DS.out k]; simp; omega)
          go_wp2_with (first | (refine wpList_load_blk rfl 22 _ rfl (A5.out) rfl Try.underlying22 sz6 ?_) | fail)
          go_at_call 136
          refine (shifted_any a k HS.out (by omega) (by omega) _).mono ?_
          rintro e w6 ⟨rfl, hb6⟩
          have A6 := Lib.hid (A5.out.below hb6 A5.out.lt)
          have B6 := Lib.hid (B5.out.below hb6 B5.out.lt)
          have HB6 := Lib.hid (HB5.out.trans (hb6.mono HB5.out.size)); clear hb6
          go_wp2_with fail
          go_at_call 40
          refine (isDie_any _ _).mono ?_
          rintro e w7 ⟨rfl, hb7⟩
          have A7 := Lib.hid (A6.out.below hb7 A6.out.lt)
          have B7 := Lib.hid (B6.out.below hb7 B6.out.lt)
          have HB7 := Lib.hid (HB6.out.trans (hb7.mono HB6.out.size)); clear hb7
          rw [D1.out]
          go_wp2
          go_ret2
          exact ⟨by rw [HZ.out]; rfl, HB7.out⟩
end Go.Proofs.Ytmhlfpcndgoemaa
