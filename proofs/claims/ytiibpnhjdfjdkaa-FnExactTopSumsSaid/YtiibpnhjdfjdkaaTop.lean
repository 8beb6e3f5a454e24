/- TopSums, both sides. -/
import Derived.Test.YtiibpnhjdfjdkaaGrow
import Derived.Test.YtiibpnhjdfjdkaaChance
set_option linter.unusedVariables false
set_option linter.unusedSimpArgs false
set_option linter.unusedSectionVars false
namespace Go.Proofs.Ytiibpnhjdfjdkaa
open Go.RowKit
/-- The greatest of the first k, and 0. -/
def mxF (t : Nat → Int) : Nat → Int
  | 0 => 0
  | k + 1 => if mxF t k < t k then t k else mxF t k
/-- The places below k that hold M. -/
def posL (t : Nat → Int) (M : Int) : Nat → List Int
  | 0 => []
  | k + 1 => if t k = M then posL t M k ++ [(k : Int)] else posL t M k
theorem posL_len (t : Nat → Int) (M : Int) : ∀ k, (posL t M k).length ≤ k
  | 0 => by simp [posL]
  | k + 1 => by
    have := posL_len t M k
    simp only [posL]
    split
    · simp; omega
    · omega
theorem posL_none {t : Nat → Int} {M : Int} : ∀ k, (∀ j, j < k → t j ≠ M) → posL t M k = []
  | 0, _ => rfl
  | k + 1, h => by
    simp only [posL]
    rw [if_neg (h k (by omega)), posL_none k (fun j hj => h j (by omega))]
theorem mxF_ge (t : Nat → Int) : ∀ k j, j < k → t j ≤ mxF t k
  | 0, j, h => by omega
  | k + 1, j, h => by
    simp only [mxF]
    by_cases e : j = k
    · subst e; split <;> omega
    · have := mxF_ge t k j (by omega)
      split <;> omega
theorem mxF_nonneg (t : Nat → Int) : ∀ k, 0 ≤ mxF t k
  | 0 => Int.le_refl _
  | k + 1 => by
    have := mxF_nonneg t k
    simp only [mxF]
    split <;> omega
theorem mxF_le (t : Nat → Int) (b : Int) (hb : 0 ≤ b) : ∀ k, (∀ j, j < k → t j ≤ b) → mxF t k ≤ b
  | 0, _ => hb
  | k + 1, h => by
    have := mxF_le t b hb k (fun j hj => h j (by omega))
    have := h k (by omega)
    simp only [mxF]
    split <;> omega
/-- What the reference has collected behind k sums. -/
def topL (t : Nat → Int) (k : Nat) : List Int := if 0 < mxF t k then posL t (mxF t k) k else []
theorem topL_len (t : Nat → Int) (k : Nat) : (topL t k).length ≤ k := by
  unfold topL
  split
  · exact posL_len _ _ _
  · simp
theorem topL_more {t : Nat → Int} {k : Nat} (h : mxF t k < t k) : topL t (k + 1) = [] ++ [(k : Int)] := by
  have e : mxF t (k + 1) = t k := by simp only [mxF]; rw [if_pos h]
  have h0 := mxF_nonneg t k
  unfold topL
  rw [e, if_pos (by omega)]
  simp only [posL]
  rw [posL_none k (fun j hj => by have := mxF_ge t k j hj; omega)]
  simp
theorem topL_same {t : Nat → Int} {k : Nat} (h : ¬ mxF t k < t k) (h2 : t k = mxF t k) (h3 : 0 < mxF t k) : topL t (k + 1) = topL t k ++ [(k : Int)] := by
  have e : mxF t (k + 1) = mxF t k := by simp only [mxF]; rw [if_neg h]
  unfold topL
  rw [e, if_pos h3, if_pos h3]
  simp only [posL]
  rw [if_pos h2]
theorem topL_less {t : Nat → Int} {k : Nat} (h : ¬ mxF t k < t k) (h2 : ¬ (t k = mxF t k ∧ 0 < mxF t k)) : topL t (k + 1) = topL t k := by
  have e : mxF t (k + 1) = mxF t k := by simp only [mxF]; rw [if_neg h]
  unfold topL
  rw [e]
  by_cases h3 : 0 < mxF t k
  · rw [if_pos h3]
    simp only [posL]
    rw [if_neg (fun e2 => h2 ⟨e2, h3⟩), if_pos h3]
  · rw [if_neg h3, if_neg h3]
noncomputable def topList (n : Nat) (x : Nat → Nat → Int) : List Int := if poolB n x then posL (tabF x n) (mxF (tabF x n) 121) 121 else []
noncomputable def topM (n : Nat) (x : Nat → Nat → Int) : Int := if poolB n x then mxF (tabF x n) 121 else 0
noncomputable def topN (n : Nat) (x : Nat → Nat → Int) : Nat := (topList n x).length
noncomputable def topF (n : Nat) (x : Nat → Nat → Int) : Nat → Int := at0 (topList n x)
theorem topN_le (n : Nat) (x : Nat → Nat → Int) : topN n x ≤ 1000000 := by
  unfold topN topList
  split
  · have := posL_len (tabF x n) (mxF (tabF x n) 121) 121; omega
  · simp
theorem top_pos {n : Nat} {x : Nat → Nat → Int} (g : poolB n x = true) : 0 < mxF (tabF x n) 121 := by
  obtain ⟨n1, n4⟩ := pool_le g
  have h1 := tabF_sum (pool_small g) n4 n (Nat.le_refl _)
  have h2 := (sixN_le n (by omega)).1
  by_cases h : 0 < mxF (tabF x n) 121
  · exact h
  · have h3 := (sumF_bd (f := tabF x n) (m := 0) 121 (fun j hj => ⟨(tabF_bd x n j).1, by have := mxF_ge (tabF x n) 121 j hj; omega⟩)).2
    omega
theorem max_any (b : Nat) (t : Nat → Int) (h0 : ∀ i, i < 121 → 0 ≤ t i ∧ t i ≤ 1296) (w : World) (hb : Blk w b 121 65 (I t)) : Calls Try.prog 85 #[.slice (some ⟨b, 0, none⟩) 121 121] w fun e w' => e = .returned (.int .i64 (mxF t 121)) ∧ w = w' := by
  have HB := Lib.hid hb; clear hb
  have H0 := Lib.hid h0; clear h0
  have c0 : w.cell? ⟨b, 0, none⟩ = some (.int .i64 (t 0)) := HB.out.cell (by omega)
  obtain ⟨a1, a2⟩ := H0.out 0 (by omega)
  have HM := Lib.hid (show t 0 = mxF t 1 by
    have e : mxF t 1 = if 0 < t 0 then t 0 else 0 := rfl
    rw [e]
    by_cases q : 0 < t 0
    · rw [if_pos q]
    · rw [if_neg q]; omega)
  go_enter Try.func85, Try.ntmps85
  go_wp2
  rw [HM.out]
  go_loopw [3, 4] (fun m i wr => ∃ k : Nat, 1 ≤ k ∧ k ≤ 121 ∧ i = .int .i64 (k : Int) ∧ m = .int .i64 (mxF t k) ∧ w = wr) (fun m i _ => 122 - (intOf i).toNat)
  case atStart => exact ⟨1, by omega, by omega, rfl, rfl, rfl⟩
  case round =>
    obtain ⟨k, k1, hk, rfl, rfl, rfl⟩ := hrel
    by_cases hlt : k < 121
    · have d0 : decide ((k : Int) < 121) = true := by simp; omega
      have c1 : w.cell? ⟨b, k, none⟩ = some (.int .i64 (t k)) := HB.out.cell hlt
      obtain ⟨e1, e2⟩ := H0.out k hlt
      have e3 := mxF_nonneg t k
      by_cases hm : mxF t k < t k
      · have HL := Lib.hid (show t k = mxF t (k + 1) by simp only [mxF]; rw [if_pos hm])
        go_wp2
        go_roundw
        case rel => exact ⟨k + 1, by omega, by omega, by go_num, by rw [← HL.out], trivial⟩
        case measure => simp [intOf]; omega
      · have HL := Lib.hid (show mxF t k = mxF t (k + 1) by simp only [mxF]; rw [if_neg hm])
        go_wp2
        go_roundw
        case rel => exact ⟨k + 1, by omega, by omega, by go_num, by rw [← HL.out], trivial⟩
        case measure => simp [intOf]; omega
    · obtain rfl : k = 121 := by omega
      go_wp2
      go_ret
      exact ⟨rfl, rfl⟩
set_option maxHeartbeats 2000000 in
theorem iTopSums_any (o : Option Addr) (n c : Nat) (x : Nat → Nat → Int) (hn : n ≤ 1048576) (w : World) (h : PoolAt w o n x) : Calls Try.prog 45 #[poolV o n c] w fun e w' => ∃ A cp, e = .returned (.tuple #[.slice A (topN n x) cp, .int .i64 (topM n x), .bool (poolB n x)]) ∧ Ints w' w.heap.size A (topN n x) cp (topF n x) ∧ Below w.heap.size w w' := by
  have H := Lib.hid h; clear h
  cases g : poolB n x
  · have HV := Lib.hid (show topN n x = 0 by unfold topN topList; rw [g]; rfl)
    have HM := Lib.hid (show topM n x = 0 by unfold topM; rw [g]; rfl)
    rw [HV.out, HM.out]
    go_enter Try.func45, Try.ntmps45
    go_wp2_with fail
    go_at_call 67
    refine (isPool_any o n c x hn _ H.out).mono ?_
    rintro e w1 ⟨rfl, hb1⟩
    have HB1 := Lib.hid hb1; clear hb1
    rw [g]
    go_wp2
    go_ret3
    exact ⟨none, 0, rfl, Ints.nil _ _ _, HB1.out⟩
  · obtain ⟨b1, b2, s1, s2⟩ := share_bd g
    have G := Lib.hid g
    obtain ⟨t, ht⟩ : ∃ t, t = tabF x n := ⟨_, rfl⟩
    rw [← ht] at b1
    obtain ⟨M, hM⟩ : ∃ M, M = mxF t 121 := ⟨_, rfl⟩
    have HTL := Lib.hid (show topList n x = posL t M 121 by unfold topList; rw [g, hM, ht]; rfl)
    have HM := Lib.hid (show topM n x = M by unfold topM; rw [g, hM, ht]; rfl)
    have HT := Lib.hid ht
    have HMX := Lib.hid hM
    have B1 := Lib.hid b1
    clear b1 b2 s1 s2 ht hM
    unfold topN topF
    rw [HTL.out, HM.out]
    go_enter Try.func45, Try.ntmps45
    go_wp2_with fail
    go_at_call 67
    refine (isPool_any o n c x hn _ H.out).mono ?_
    rintro e w1 ⟨rfl, hb1⟩
    have HB1 := Lib.hid hb1; clear hb1
    rw [g]
    clear g
    go_wp2_with fail
    go_at_call 62
    refine (sums_any o n c x hn G.out _ (H.out.below HB1.out)).mono ?_
    rintro e w2 ⟨rfl, hb2⟩
    have HB2 := Lib.hid (HB1.out.trans (hb2.mono HB1.out.size)); clear hb2
    rw [← HT.out]
    go_wp2_with (first | (refine wpList_alloc_blk rfl 65 rfl zero121 ?_) | (((with_reducible apply wpList_store_new); (case hw => rfl); (case ho => rfl); (case hx => rfl); (case hy => rfl); (case hg => rfl); (case hi => exact sz121); (case h1 => exact fun _ _ => rfl))) | fail)
    go_at_call 85
    refine (max_any w2.heap.size t B1.out _ (Blk.new _ _ _ _)).mono ?_
    rintro e w' ⟨rfl, rfl⟩
    rw [← HMX.out]
    obtain ⟨B, hB0⟩ : ∃ B, B = w2.heap.size := ⟨_, rfl⟩
    have TB := Lib.hid (show Blk (w2.alloc (.cells (row 121 (I t)) 65)) B 121 65 (I t) from hB0 ▸ Blk.new _ _ _ _)
    have TW := Lib.hid (HB2.out.alloc HB2.out.size (.cells (row 121 (I t)) 65))
    rw [← hB0]
    clear hB0
    go_wp2_with (first | ((with_reducible apply wpList_load_blk); (case hw => rfl); (case ho => rfl); (case hx => rfl); (case hb => with_reducible exact TB.out); (case hu => exact Try.underlying65); (case hi => exact sz121)) | fail)
    go_loopw [7, 18] (fun v i wr => ∃ k : Nat, k ≤ 121 ∧ i = .int .i64 (k : Int) ∧ (∃ A cp, v = .slice A (posL t M k).length cp ∧ Ints wr w.heap.size A (posL t M k).length cp (at0 (posL t M k))) ∧ Below w.heap.size w wr) (fun v i _ => 122 - (intOf i).toNat)
    case atStart => exact ⟨0, by omega, rfl, ⟨none, 0, rfl, Ints.nil _ _ _⟩, TW.out⟩
    case round =>
      obtain ⟨s, hs, rfl, ⟨A, cp, rfl, hI⟩, hb⟩ := hrel
      have HI := Lib.hid hI; have HB2 := Lib.hid hb
      clear hI hb TW TB
      by_cases hlt : s < 121
      · have d0 : decide ((s : Int) < 121) = true := by simp; omega
        by_cases he : t s = M
        · have d1 : (t s == M) = true := by simp [he]
          have HL := Lib.hid (show posL t M s ++ [(s : Int)] = posL t M (s + 1) by simp only [posL]; rw [if_pos he])
          clear he
          have Z1 := Lib.hid (show (wr.alloc (.cells #[.int .i64 ((s : Int))] 3)).cell? ⟨wr.heap.size, 0, none⟩ = some (.int .i64 ((s : Int))) by simp)
          have Z2 := Lib.hid (HI.out.below ((Below.refl wr.heap.size wr).alloc (Nat.le_refl _) (.cells #[.int .i64 ((s : Int))] 3)))
          have Z3 := Lib.hid (show w.heap.size ≤ (wr.alloc (.cells #[.int .i64 ((s : Int))] 3)).heap.size by have := HB2.out.size; simp; omega)
          have Z4 := Lib.hid (show (posL t M s).length ≤ 1000000 by have := posL_len t M s; omega)
          go_wp2_with (first | (((with_reducible apply wpList_index121); (case hw => rfl); (case ho => rfl); (case hx => rfl); (case hy => rfl); (case hk => exact hlt))) | (((with_reducible apply (wpList_append_list (l := posL t M s))); (case hgd => rfl); (case ho => rfl); (case hs => rfl); (case hx => rfl); (case hS => exact Try.underlying35); (case hown => exact Z2.out); (case hz => exact Z1.out); (case hm => exact Z4.out); (case hB => exact Z3.out); intro A2 c2 w2 hI2 hg2)) | fail)
          go_roundw
          case rel => exact ⟨s + 1, by omega, by go_num, ⟨A2, c2, by rw [← HL.out]; simp, by rw [← HL.out]; exact hI2⟩, Ints.append_below HB2.out HI.out (Nat.le_refl _) hg2⟩
          case measure => simp [intOf]; omega
        · have d1 : (t s == M) = false := by simp [he]
          have HL := Lib.hid (show posL t M s = posL t M (s + 1) by simp only [posL]; rw [if_neg he])
          clear he
          go_wp2_with (first | (((with_reducible apply wpList_index121); (case hw => rfl); (case ho => rfl); (case hx => rfl); (case hy => rfl); (case hk => exact hlt))) | fail)
          go_roundw
          case rel => exact ⟨s + 1, by omega, by go_num, ⟨A, cp, by rw [← HL.out], by rw [← HL.out]; exact HI.out⟩, HB2.out⟩
          case measure => simp [intOf]; omega
      · obtain rfl : s = 121 := by omega
        go_wp2
        go_ret3
        exact ⟨A, cp, rfl, HI.out, HB2.out⟩
set_option maxHeartbeats 2000000 in
theorem sTopSums_any (o : Option Addr) (n c : Nat) (x : Nat → Nat → Int) (hn : n ≤ 1048576) (w : World) (h : PoolAt w o n x) : Calls Try.prog 44 #[poolV o n c] w fun e w' => ∃ A cp, e = .returned (.tuple #[.slice A (topN n x) cp, .int .i64 (topM n x), .bool (poolB n x)]) ∧ Ints w' w.heap.size A (topN n x) cp (topF n x) ∧ Below w.heap.size w w' := by
  have H := Lib.hid h; clear h
  cases g : poolB n x
  · have HV := Lib.hid (show topN n x = 0 by unfold topN topList; rw [g]; rfl)
    have HM := Lib.hid (show topM n x = 0 by unfold topM; rw [g]; rfl)
    rw [HV.out, HM.out]
    go_enter Try.func44, Try.ntmps44
    go_wp2_with fail
    go_at_call 64
    refine (l2Pool_any o n c x hn _ (H.out.alloc _)).mono ?_
    rintro e w1 ⟨rfl, hb1⟩
    have HB1 := Lib.hid hb1; clear hb1
    have I1 := Lib.hid ((Ints.empty w w.heap.size (topF n x) (Nat.le_refl _)).below HB1.out)
    have HB1 := Lib.hid (((Below.refl w.heap.size w).alloc (Nat.le_refl _) (.cells #[] 3)).trans (HB1.out.mono (by simp)))
    rw [g]
    go_wp2
    go_ret3
    exact ⟨_, 0, rfl, I1.out, HB1.out⟩
  · obtain ⟨b1, b2, s1, s2⟩ := share_bd g
    have G := Lib.hid g
    have hpos := top_pos g
    obtain ⟨t, ht⟩ : ∃ t, t = tabF x n := ⟨_, rfl⟩
    rw [← ht] at b1 hpos
    have HTL := Lib.hid (show topList n x = topL t 121 by unfold topList topL; rw [g, ← ht, if_pos hpos]; rfl)
    have HM := Lib.hid (show topM n x = mxF t 121 by unfold topM; rw [g, ht]; rfl)
    have HT := Lib.hid ht
    have B1 := Lib.hid b1
    clear b1 b2 s1 s2 ht hpos
    unfold topN topF
    rw [HTL.out, HM.out]
    go_enter Try.func44, Try.ntmps44
    go_wp2_with fail
    go_at_call 64
    refine (l2Pool_any o n c x hn _ (H.out.alloc _)).mono ?_
    rintro e w1 ⟨rfl, hb1⟩
    have HB1 := Lib.hid hb1; clear hb1
    have I1 := Lib.hid ((Ints.empty w w.heap.size (at0 []) (Nat.le_refl _)).below HB1.out)
    have P1 := Lib.hid ((H.out.alloc (.cells #[] 3)).below HB1.out)
    have HB1 := Lib.hid (((Below.refl w.heap.size w).alloc (Nat.le_refl _) (.cells #[] 3)).trans (HB1.out.mono (by simp)))
    rw [g]
    clear g
    go_wp2_with fail
    go_at_call 65
    refine (l2Table_any o n c x hn G.out _ P1.out).mono ?_
    rintro e w2 ⟨rfl, hb2⟩
    have I2 := Lib.hid (I1.out.below hb2)
    have HB2 := Lib.hid (HB1.out.trans (hb2.mono HB1.out.size))
    clear hb2
    rw [← HT.out]
    go_wp2_with (first | (refine wpList_alloc_blk rfl 65 rfl zero121 ?_) | (((with_reducible apply wpList_store_new); (case hw => rfl); (case ho => rfl); (case hx => rfl); (case hy => rfl); (case hg => rfl); (case hi => exact sz121); (case h1 => exact fun _ _ => rfl))) | fail)
    obtain ⟨B, hB0⟩ : ∃ B, B = w2.heap.size := ⟨_, rfl⟩
    have TB := Lib.hid (show Blk (w2.alloc (.cells (row 121 (I t)) 65)) B 121 65 (I t) from hB0 ▸ Blk.new _ _ _ _)
    have TI := Lib.hid (I2.out.below ((Below.refl _ _).alloc (Nat.le_refl _) (.cells (row 121 (I t)) 65)))
    have TW := Lib.hid (HB2.out.alloc HB2.out.size (.cells (row 121 (I t)) 65))
    have HBB := Lib.hid (show w.heap.size ≤ B by rw [hB0]; exact HB2.out.size)
    have HBZ := Lib.hid (show B < (w2.alloc (.cells (row 121 (I t)) 65)).heap.size by rw [hB0]; simp)
    rw [← hB0]
    clear hB0 I1 I2
    go_loopw [5, 6, 8] (fun v m i wr => ∃ k : Nat, k ≤ 121 ∧ i = .int .i64 (k : Int) ∧ m = .int .i64 (mxF t k) ∧ Blk wr B 121 65 (I t) ∧ (∃ A cp, v = .slice A (topL t k).length cp ∧ Ints wr w.heap.size A (topL t k).length cp (at0 (topL t k)) ∧ (0 < mxF t k → Ints wr (B + 1) A (topL t k).length cp (at0 (topL t k)))) ∧ Below w.heap.size w wr) (fun v m i _ => 122 - (intOf i).toNat)
    case atStart => exact ⟨0, by omega, rfl, rfl, TB.out, ⟨_, 0, rfl, TI.out, fun h => by simp [mxF] at h⟩, TW.out⟩
    case round =>
      obtain ⟨s, hs, rfl, rfl, hT, ⟨A, cp, rfl, hI, hJ⟩, hb⟩ := hrel
      have HB2 := Lib.hid hb; have HT2 := Lib.hid hT; have HI0 := Lib.hid hI; have HJ := Lib.hid hJ
      have HZ := Lib.hid (show B < wr.heap.size from hT.lt)
      clear hI hb TW TB TI hT hJ HBZ
      by_cases hlt : s < 121
      · have d0 : decide ((s : Int) < 121) = true := by simp; omega
        have c0 : wr.cell? ⟨B, s, none⟩ = some (.int .i64 (t s)) := HT2.out.cell hlt
        obtain ⟨e1, e2⟩ := B1.out s hlt
        have e3 := mxF_nonneg t s
        by_cases hm : mxF t s < t s
        · have HL := Lib.hid (topL_more hm)
          have HX := Lib.hid (show mxF t (s + 1) = t s by simp only [mxF]; rw [if_pos hm])
          have d1 : decide (mxF t s < t s) = true := by simp [hm]
          have d2 : (t s == t s) = true := by simp
          have d3 : decide ((0 : Int) < t s) = true := by simp; omega
          clear hm
          have c1 : (wr.alloc (.cells #[] 3)).cell? ⟨B, s, none⟩ = some (.int .i64 (t s)) := (HT2.out.alloc _).cell hlt
          have Z1 := Lib.hid (show ((wr.alloc (.cells #[] 3)).alloc (.cells #[.int .i64 (s : Int)] 3)).cell? ⟨wr.heap.size + 1, 0, none⟩ = some (.int .i64 (s : Int)) by simp)
          have Z2 := Lib.hid ((Ints.empty wr (B + 1) (at0 []) HZ.out).below ((Below.refl _ _).alloc (Nat.le_refl _) (.cells #[.int .i64 (s : Int)] 3)))
          have Z3 := Lib.hid (show B + 1 ≤ ((wr.alloc (.cells #[] 3)).alloc (.cells #[.int .i64 (s : Int)] 3)).heap.size by have := HZ.out; simp; omega)
          have Z4 := Lib.hid (show ([] : List Int).length ≤ 1000000 by simp)
          go_wp2_with (first | (((with_reducible apply (wpList_append_list (l := []))); (case hgd => rfl); (case ho => rfl); (case hs => rfl); (case hx => rfl); (case hS => exact Try.underlying35); (case hown => exact Z2.out); (case hz => exact Z1.out); (case hm => exact Z4.out); (case hB => exact Z3.out); intro A2 c2 w2 hI2 hg2)) | fail)
          go_roundw
          case rel =>
            have hE := Ints.empty wr (B + 1) (at0 []) HZ.out
            refine ⟨s + 1, by omega, by go_num, by rw [HX.out], ((HT2.out.alloc _).alloc _).grown hg2 (Ints.apart_blk hE (Nat.lt_succ_self B)), ⟨A2, c2, by rw [HL.out]; rfl, by rw [HL.out]; exact hI2.base (by have := HBB.out; omega), fun _ => by rw [HL.out]; exact hI2⟩, Ints.append_below (HB2.out.alloc HB2.out.size _) hE (by have := HBB.out; omega) hg2⟩
          case measure => simp [intOf]; omega
        · by_cases hq : t s = mxF t s ∧ 0 < mxF t s
          · have HI := Lib.hid (HJ.out hq.2)
            have HL := Lib.hid (topL_same hm hq.1 hq.2)
            have HX := Lib.hid (show mxF t (s + 1) = mxF t s by simp only [mxF]; rw [if_neg hm])
            have d1 : decide (mxF t s < t s) = false := by simp; omega
            have d2 : (t s == mxF t s) = true := by simp [hq.1]
            have d3 : decide ((0 : Int) < mxF t s) = true := by simp; exact hq.2
            clear hq hm
            have Z1 := Lib.hid (show (wr.alloc (.cells #[.int .i64 (s : Int)] 3)).cell? ⟨wr.heap.size, 0, none⟩ = some (.int .i64 (s : Int)) by simp)
            have Z2 := Lib.hid (HI.out.below ((Below.refl wr.heap.size wr).alloc (Nat.le_refl _) (.cells #[.int .i64 (s : Int)] 3)))
            have Z3 := Lib.hid (show B + 1 ≤ (wr.alloc (.cells #[.int .i64 (s : Int)] 3)).heap.size by have := HZ.out; simp; omega)
            have Z4 := Lib.hid (show (topL t s).length ≤ 1000000 by have := topL_len t s; omega)
            go_wp2_with (first | (((with_reducible apply (wpList_append_list (l := topL t s))); (case hgd => rfl); (case ho => rfl); (case hs => rfl); (case hx => rfl); (case hS => exact Try.underlying35); (case hown => exact Z2.out); (case hz => exact Z1.out); (case hm => exact Z4.out); (case hB => exact Z3.out); intro A2 c2 w2 hI2 hg2)) | fail)
            go_roundw
            case rel =>
              refine ⟨s + 1, by omega, by go_num, by rw [HX.out], (HT2.out.alloc _).grown hg2 (Ints.apart_blk HI.out (Nat.lt_succ_self B)), ⟨A2, c2, by rw [HL.out]; simp, by rw [HL.out]; exact hI2.base (by have := HBB.out; omega), fun _ => by rw [HL.out]; exact hI2⟩, Ints.append_below HB2.out HI.out (by have := HBB.out; omega) hg2⟩
            case measure => simp [intOf]; omega
          · have e4 : ¬ t s = mxF t s ∨ ¬ 0 < mxF t s := by
              by_cases q : t s = mxF t s
              · exact .inr (fun r => hq ⟨q, r⟩)
              · exact .inl q
            have HL := Lib.hid (topL_less hm hq)
            have HX := Lib.hid (show mxF t (s + 1) = mxF t s by simp only [mxF]; rw [if_neg hm])
            have d1 : decide (mxF t s < t s) = false := by simp; omega
            clear hq hm
            by_cases q : t s = mxF t s
            · have d2 : (t s == mxF t s) = true := by simp [q]
              have d3 : decide ((0 : Int) < mxF t s) = false := by simp; omega
              clear q e4
              go_wp2
              go_roundw
              case rel => exact ⟨s + 1, by omega, by go_num, by rw [HX.out], HT2.out, ⟨A, cp, by rw [HL.out], by rw [HL.out]; exact HI0.out, by rw [HL.out, HX.out]; exact HJ.out⟩, HB2.out⟩
              case measure => simp [intOf]; omega
            · have d2 : (t s == mxF t s) = false := by simp [q]
              clear q e4
              go_wp2
              go_roundw
              case rel => exact ⟨s + 1, by omega, by go_num, by rw [HX.out], HT2.out, ⟨A, cp, by rw [HL.out], by rw [HL.out]; exact HI0.out, by rw [HL.out, HX.out]; exact HJ.out⟩, HB2.out⟩
              case measure => simp [intOf]; omega
      · obtain rfl : s = 121 := by omega
        go_wp2
        go_ret3
        exact ⟨A, cp, rfl, HI0.out, HB2.out⟩
end Go.Proofs.Ytiibpnhjdfjdkaa
