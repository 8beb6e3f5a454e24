/- BeatenBy, both sides. -/
import Derived.Test.YtiibpnhjdfjdkaaGrow
set_option linter.unusedVariables false
set_option linter.unusedSimpArgs false
set_option linter.unusedSectionVars false
namespace Go.Proofs.Ytiibpnhjdfjdkaa
open Go.RowKit
/-- How many of the first k dice die i beats. -/
def beatC (x : Nat → Nat → Int) (i : Nat) : Nat → Int
  | 0 => 0
  | k + 1 => if beatB (x i) (x k) then beatC x i k + 1 else beatC x i k
theorem beatC_bd (x : Nat → Nat → Int) (i : Nat) : ∀ k, 0 ≤ beatC x i k ∧ beatC x i k ≤ k
  | 0 => by simp [beatC]
  | k + 1 => by
    have := beatC_bd x i k
    simp only [beatC]
    split <;> omega
noncomputable def beatenN (n : Nat) (x : Nat → Nat → Int) : Nat := if rowB n x then n else 0
def beatenF (n : Nat) (x : Nat → Nat → Int) (i : Nat) : Int := beatC x i n
theorem beatenN_le (n : Nat) (x : Nat → Nat → Int) : beatenN n x ≤ 1000000 := by
  unfold beatenN
  cases g : rowB n x
  · simp
  · have := row_le g; simp; omega
set_option maxHeartbeats 1000000 in
theorem sBeatenBy_any (o : Option Addr) (n c : Nat) (x : Nat → Nat → Int) (hn : n ≤ 1048576) (w : World) (h : PoolAt w o n x) : Calls Try.prog 46 #[poolV o n c] w fun e w' => ∃ A cp, e = .returned (.tuple #[.slice A (beatenN n x) cp, .bool (rowB n x)]) ∧ Ints w' w.heap.size A (beatenN n x) cp (beatenF n x) ∧ Below w.heap.size w w' := by
  have H := Lib.hid h; clear h
  cases g : rowB n x
  · have HV := Lib.hid (show beatenN n x = 0 by unfold beatenN; rw [g]; rfl)
    rw [HV.out]
    go_enter Try.func46, Try.ntmps46
    go_wp2_with fail
    go_at_call 73
    refine (l3Row_any o n c x hn _ (H.out.alloc _)).mono ?_
    rintro e w1 ⟨rfl, hb1⟩
    have HB1 := Lib.hid hb1; clear hb1
    have I1 := Lib.hid ((Ints.empty w w.heap.size (beatenF n x) (Nat.le_refl _)).below HB1.out)
    have HB1 := Lib.hid (((Below.refl w.heap.size w).alloc (Nat.le_refl _) (.cells #[] 3)).trans (HB1.out.mono (by simp)))
    rw [g]
    go_wp2
    go_ret2
    exact ⟨_, 0, rfl, I1.out, HB1.out⟩
  · obtain ⟨n1, n6⟩ := row_le g
    have HV := Lib.hid (show beatenN n x = n by unfold beatenN; rw [g]; rfl)
    rw [HV.out]
    go_enter Try.func46, Try.ntmps46
    go_wp2_with fail
    go_at_call 73
    refine (l3Row_any o n c x hn _ (H.out.alloc _)).mono ?_
    rintro e w1 ⟨rfl, hb1⟩
    have HB1 := Lib.hid hb1; clear hb1
    have I1 := Lib.hid ((Ints.empty w w.heap.size (beatenF n x) (Nat.le_refl _)).below HB1.out)
    have HB1 := Lib.hid (((Below.refl w.heap.size w).alloc (Nat.le_refl _) (.cells #[] 3)).trans (HB1.out.mono (by simp)))
    rw [g]
    clear g
    go_wp2
    go_loopw [4, 5] (fun v i wr => ∃ k : Nat, k ≤ n ∧ i = .int .i64 (k : Int) ∧ (∃ A cp, v = .slice A k cp ∧ Ints wr w.heap.size A k cp (beatenF n x)) ∧ Below w.heap.size w wr) (fun v i _ => n - (intOf i).toNat)
    case atStart => exact ⟨0, by omega, rfl, ⟨_, 0, rfl, I1.out⟩, HB1.out⟩
    case round =>
      obtain ⟨i, hi, rfl, ⟨A, cp, rfl, hI⟩, hb⟩ := hrel
      have HI := Lib.hid hI; have HB := Lib.hid hb
      clear hI hb HB1 I1
      by_cases hlt : i < n
      · have d0 : decide (i < n) = true := by simp; omega
        obtain ⟨wo, rfl⟩ : ∃ wo : World, wo = wr := ⟨_, rfl⟩
        go_wp2
        go_loopw [6, 7] (fun m v wr => ∃ k : Nat, k ≤ n ∧ v = .int .i64 (k : Int) ∧ m = .int .i64 (beatC x i k) ∧ Ints wr w.heap.size A i cp (beatenF n x) ∧ Below w.heap.size w wr) (fun m v _ => n - (intOf v).toNat)
        case atStart => exact ⟨0, by omega, rfl, rfl, HI.out, HB.out⟩
        case round =>
          obtain ⟨k, hk, rfl, rfl, hI, hb⟩ := hrel
          clear HI HB
          have HI := Lib.hid hI
          have HB2 := Lib.hid hb
          clear hI hb
          obtain ⟨e1, e2⟩ := beatC_bd x i k
          by_cases hlk : k < n
          · have d1 : decide (k < n) = true := by simp; omega
            obtain ⟨a1, rfl, hd⟩ := dice6 (H.out.below HB2.out) hlt
            have HD := Lib.hid hd
            clear hd
            cases gb : beatB (x i) (x k)
            · have HL := Lib.hid (show beatC x i (k + 1) = beatC x i k by simp only [beatC]; rw [gb]; rfl)
              go_wp2
              refine wp_region_grown_lit (by kernel_rfl) (by kernel_rfl) ?_
              repeat (first | go_big_quiet_skip | (go_big_quiet_want; (first | (refine grown_load_pool _ rfl (HD.out) rfl ?_ ?_; omega; simp only [Act.put, List.setIfInBounds_toArray, List.set_cons_succ, List.set_cons_zero]; go_big_quiet_on) | (go_big_quiet_op; (first | go_big_quiet_on | (refine ⟨_, fun _ _ => rfl, ?_⟩; go_big_quiet_on) | (apply Exists.intro; refine ⟨fun _ hC => ?_, ?_⟩; (first | (go_at_call 74; exact grown_of hC (l3Beats_any _ _ _))); go_big_quiet_on))))))
              refine wpQuiet_nil ?_
              intro wg hg
              have HI3 := Lib.hid (HI.out.below hg.below)
              have HB3 := Lib.hid (HB2.out.trans (hg.below.mono HB2.out.size))
              clear hg
              rw [gb]
              go_wp2
              go_roundw
              case rel => exact ⟨k + 1, by omega, by go_num, by rw [HL.out], HI3.out, HB3.out⟩
              case measure => simp [intOf]; omega
            · have HL := Lib.hid (show beatC x i (k + 1) = beatC x i k + 1 by simp only [beatC]; rw [gb]; rfl)
              go_wp2
              refine wp_region_grown_lit (by kernel_rfl) (by kernel_rfl) ?_
              repeat (first | go_big_quiet_skip | (go_big_quiet_want; (first | (refine grown_load_pool _ rfl (HD.out) rfl ?_ ?_; omega; simp only [Act.put, List.setIfInBounds_toArray, List.set_cons_succ, List.set_cons_zero]; go_big_quiet_on) | (go_big_quiet_op; (first | go_big_quiet_on | (refine ⟨_, fun _ _ => rfl, ?_⟩; go_big_quiet_on) | (apply Exists.intro; refine ⟨fun _ hC => ?_, ?_⟩; (first | (go_at_call 74; exact grown_of hC (l3Beats_any _ _ _))); go_big_quiet_on))))))
              refine wpQuiet_nil ?_
              intro wg hg
              have HI3 := Lib.hid (HI.out.below hg.below)
              have HB3 := Lib.hid (HB2.out.trans (hg.below.mono HB2.out.size))
              clear hg
              rw [gb]
              go_wp2
              go_roundw
              case rel => exact ⟨k + 1, by omega, by go_num, by rw [HL.out], HI3.out, HB3.out⟩
              case measure => simp [intOf]; omega
          · obtain rfl : k = n := by omega
            have d1 : decide (k < k) = false := by simp
            have Z1 := Lib.hid (show (wr.alloc (.cells #[.int .i64 (beatC x i k)] 3)).cell? ⟨wr.heap.size, 0, none⟩ = some (.int .i64 (beatC x i k)) by simp)
            have Z2 := Lib.hid (HI.out.below ((Below.refl wr.heap.size wr).alloc (Nat.le_refl _) (.cells #[.int .i64 (beatC x i k)] 3)))
            have Z3 := Lib.hid (show w.heap.size ≤ (wr.alloc (.cells #[.int .i64 (beatC x i k)] 3)).heap.size by have := HB2.out.size; simp; omega)
            have Z4 := Lib.hid (show i ≤ 1000000 by omega)
            go_wp2_with (first | (((with_reducible apply wpList_append_int); (case hgd => rfl); (case ho => rfl); (case hs => rfl); (case hx => rfl); (case hS => exact Try.underlying35); (case hown => exact Z2.out); (case hz => exact Z1.out); (case hf => exact rfl); (case hm => exact Z4.out); (case hB => exact Z3.out); intro A2 c2 w2 hI2 hg2)) | fail)
            go_roundw
            case rel => exact ⟨i + 1, by omega, by go_num, ⟨A2, c2, rfl, hI2⟩, Ints.append_below HB2.out HI.out (Nat.le_refl _) hg2⟩
            case measure => simp [intOf]; omega
      · obtain rfl : i = n := by omega
        have d0 : decide (i < i) = false := by simp
        go_wp2
        go_ret2
        exact ⟨A, cp, rfl, HI.out, HB.out⟩
set_option maxHeartbeats 1000000 in
theorem iBeatenBy_any (o : Option Addr) (n c : Nat) (x : Nat → Nat → Int) (hn : n ≤ 1048576) (w : World) (h : PoolAt w o n x) : Calls Try.prog 47 #[poolV o n c] w fun e w' => ∃ A cp, e = .returned (.tuple #[.slice A (beatenN n x) cp, .bool (rowB n x)]) ∧ Ints w' w.heap.size A (beatenN n x) cp (beatenF n x) ∧ Below w.heap.size w w' := by
  have H := Lib.hid h; clear h
  cases g : rowB n x
  · have HV := Lib.hid (show beatenN n x = 0 by unfold beatenN; rw [g]; rfl)
    rw [HV.out]
    go_enter Try.func47, Try.ntmps47
    go_wp2_with fail
    go_at_call 75
    refine (isRow_any o n c x hn _ H.out).mono ?_
    rintro e w1 ⟨rfl, hb1⟩
    have HB1 := Lib.hid hb1; clear hb1
    rw [g]
    go_wp2
    go_ret2
    exact ⟨none, 0, rfl, Ints.nil _ _ _, HB1.out⟩
  · obtain ⟨n1, n6⟩ := row_le g
    have HV := Lib.hid (show beatenN n x = n by unfold beatenN; rw [g]; rfl)
    rw [HV.out]
    go_enter Try.func47, Try.ntmps47
    go_wp2_with fail
    go_at_call 75
    refine (isRow_any o n c x hn _ H.out).mono ?_
    rintro e w1 ⟨rfl, hb1⟩
    have HB1 := Lib.hid hb1; clear hb1
    rw [g]
    clear g
    go_wp2
    go_loopw [4, 15] (fun v i wr => ∃ k : Nat, k ≤ n ∧ i = .int .i64 (k : Int) ∧ (∃ A cp, v = .slice A k cp ∧ Ints wr w.heap.size A k cp (beatenF n x)) ∧ Below w.heap.size w wr) (fun v i _ => n - (intOf i).toNat)
    case atStart => exact ⟨0, by omega, rfl, ⟨none, 0, rfl, Ints.nil _ _ _⟩, HB1.out⟩
    case round =>
      obtain ⟨i, hi, rfl, ⟨A, cp, rfl, hI⟩, hb⟩ := hrel
      have HI := Lib.hid hI; have HB := Lib.hid hb
      clear hI hb HB1
      by_cases hlt : i < n
      · have d0 : decide (i < n) = true := by simp; omega
        obtain ⟨wo, rfl⟩ : ∃ wo : World, wo = wr := ⟨_, rfl⟩
        obtain ⟨a1, rfl, hd⟩ := dice6 (H.out.below HB.out) hlt
        have HC := Lib.hid (hd i hlt).2
        clear hd
        go_wp2_with (first | (refine wpList_load_cells rfl 22 _ rfl rfl (HC.out) Try.isAgg22 sz6 ?_) | (refine wpList_alloc_blk rfl 22 rfl zero6 ?_) | (((with_reducible apply wpList_store_new); (case hw => rfl); (case ho => rfl); (case hx => rfl); (case hy => rfl); (case hg => rfl); (case hi => exact sz6); (case h1 => exact fun _ _ => rfl))) | fail)
        go_loopw [7, 21] (fun m v wr => ∃ k : Nat, k ≤ n ∧ v = .int .i64 (k : Int) ∧ m = .int .i64 (beatC x i k) ∧ Blk wr wo.heap.size 6 22 (I (x i)) ∧ Ints wr w.heap.size A i cp (beatenF n x) ∧ Below w.heap.size w wr) (fun m v _ => n - (intOf v).toNat)
        case atStart => exact ⟨0, by omega, rfl, rfl, Blk.new _ _ _ _, HI.out.below ((Below.refl _ _).alloc (Nat.le_refl _) _), HB.out.alloc HB.out.size _⟩
        case round =>
          obtain ⟨k, hk, rfl, rfl, hA, hI, hb⟩ := hrel
          clear HI HB HC
          have HA := Lib.hid hA
          have HI := Lib.hid hI
          have HB2 := Lib.hid hb
          clear hA hI hb
          obtain ⟨e1, e2⟩ := beatC_bd x i k
          by_cases hlk : k < n
          · have d1 : decide (k < n) = true := by simp; omega
            obtain ⟨a2, h2, hd⟩ := dice6 (H.out.below HB2.out) hlk
            obtain rfl : a1 = a2 := Option.some.inj h2
            have HC := Lib.hid (hd k hlk).2
            have HP := Lib.hid (beatI_pos (x i) (x k))
            clear hd h2
            go_wp2_with (first | ((with_reducible apply wpList_load_cells); (case hw => rfl); (case ho => rfl); (case hx => rfl); (case hc => with_reducible exact HC.out); (case ha => exact Try.isAgg22); (case hi => exact sz6)) | (refine wpList_alloc_blk rfl 22 rfl zero6 ?_) | (((with_reducible apply wpList_store_new); (case hw => rfl); (case ho => rfl); (case hx => rfl); (case hy => rfl); (case hg => rfl); (case hi => exact sz6); (case h1 => exact fun _ _ => rfl))) | ((with_reducible apply wpList_load_blk); (case hw => rfl); (case ho => rfl); (case hx => rfl); (case hb => with_reducible exact HA.out.alloc _); (case hu => exact Try.underlying22); (case hi => exact sz6)) | ((with_reducible apply wpList_load_blk); (case hw => rfl); (case ho => rfl); (case hx => rfl); (case hb => with_reducible exact Blk.new _ _ _ _); (case hu => exact Try.underlying22); (case hi => exact sz6)) | fail)
            go_at_call 86
            refine (beats_any (x i) (x k) _).mono ?_
            rintro e w2 ⟨rfl, hb2⟩
            have HA2 := Lib.hid ((HA.out.alloc (.cells (row 6 (I (x k))) 22)).below hb2 (by have := HA.out.lt; simp; omega))
            have HI2 := Lib.hid ((HI.out.below ((Below.refl _ _).alloc (Nat.le_refl _) (.cells (row 6 (I (x k))) 22))).below hb2)
            have HB3 := Lib.hid ((HB2.out.alloc HB2.out.size (.cells (row 6 (I (x k))) 22)).trans (hb2.mono (by have := HB2.out.size; simp; omega)))
            clear hb2
            cases gb : beatB (x i) (x k)
            · have HL := Lib.hid (show beatC x i (k + 1) = beatC x i k by simp only [beatC]; rw [gb]; rfl)
              have d2 : decide (0 < beatI (x i) (x k)) = false := by rw [HP.out, gb]
              go_wp2
              go_roundw
              case rel => exact ⟨k + 1, by omega, by go_num, by rw [HL.out], HA2.out, HI2.out, HB3.out⟩
              case measure => simp [intOf]; omega
            · have HL := Lib.hid (show beatC x i (k + 1) = beatC x i k + 1 by simp only [beatC]; rw [gb]; rfl)
              have d2 : decide (0 < beatI (x i) (x k)) = true := by rw [HP.out, gb]
              go_wp2
              go_roundw
              case rel => exact ⟨k + 1, by omega, by go_num, by rw [HL.out], HA2.out, HI2.out, HB3.out⟩
              case measure => simp [intOf]; omega
          · obtain rfl : k = n := by omega
            have d1 : decide (k < k) = false := by simp
            have Z1 := Lib.hid (show (wr.alloc (.cells #[.int .i64 (beatC x i k)] 3)).cell? ⟨wr.heap.size, 0, none⟩ = some (.int .i64 (beatC x i k)) by simp)
            have Z2 := Lib.hid (HI.out.below ((Below.refl wr.heap.size wr).alloc (Nat.le_refl _) (.cells #[.int .i64 (beatC x i k)] 3)))
            have Z3 := Lib.hid (show w.heap.size ≤ (wr.alloc (.cells #[.int .i64 (beatC x i k)] 3)).heap.size by have := HB2.out.size; simp; omega)
            have Z4 := Lib.hid (show i ≤ 1000000 by omega)
            go_wp2_with (first | (((with_reducible apply wpList_append_int); (case hgd => rfl); (case ho => rfl); (case hs => rfl); (case hx => rfl); (case hS => exact Try.underlying35); (case hown => exact Z2.out); (case hz => exact Z1.out); (case hf => exact rfl); (case hm => exact Z4.out); (case hB => exact Z3.out); intro A2 c2 w2 hI2 hg2)) | fail)
            go_roundw
            case rel => exact ⟨i + 1, by omega, by go_num, ⟨A2, c2, rfl, hI2⟩, Ints.append_below HB2.out HI.out (Nat.le_refl _) hg2⟩
            case measure => simp [intOf]; omega
      · obtain rfl : i = n := by omega
        have d0 : decide (i < i) = false := by simp
        go_wp2
        go_ret2
        exact ⟨A, cp, rfl, HI.out, HB.out⟩
end Go.Proofs.Ytiibpnhjdfjdkaa
