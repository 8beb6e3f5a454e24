/- OneLike, the reference's side. -/
import Derived.Test.YtiibpnhjdfjdkaaOne4
set_option linter.unusedVariables false
set_option linter.unusedSimpArgs false
set_option linter.unusedSectionVars false
namespace Go.Proofs.Ytiibpnhjdfjdkaa
open Go.RowKit
set_option maxHeartbeats 2000000 in
set_option maxRecDepth 100000 in
theorem sOneLike_any (o : Option Addr) (n c : Nat) (x : Nat → Nat → Int) (hn : n ≤ 1048576) (w : World) (h : PoolAt w o n x) : Calls Try.prog 35 #[poolV o n c] w fun e w' => e = .returned (.tuple #[.agg (row 6 (I (oneV n x))), .bool (poolB n x && allOk n x)]) ∧ Below w.heap.size w w' := by
  have H := Lib.hid h; clear h
  cases g : poolB n x
  · have HV := Lib.hid (show oneV n x = fun _ => 0 by unfold oneV; rw [g]; rfl)
    rw [HV.out]
    go_enter Try.func35, Try.ntmps35
    go_wp2_with (first | (refine wpList_alloc_blk rfl 22 rfl zero6 ?_) | fail)
    go_at_call 64
    refine (l2Pool_any o n c x hn _ (H.out.alloc _)).mono ?_
    rintro e w1 ⟨rfl, hb1⟩
    have HB1 := Lib.hid hb1; clear hb1
    have R1 := Lib.hid (show Blk w1 w.heap.size 6 22 (I fun _ => 0) from (Blk.new _ _ _ _).below HB1.out (by simp))
    have HB1 := Lib.hid (((Below.refl w.heap.size w).alloc (by omega) _).trans (HB1.out.mono (by simp)))
    rw [g]
    go_wp2_with (first | (refine wpList_build0_blk rfl 22 rfl built6 ?_) | (refine wpList_store_blk rfl 22 _ _ rfl (R1.out) rfl rfl sz6 (fun _ _ => rfl) ?_) | fail)
    exact post_blk_tmp rfl (R1.out.setRow _) rfl Try.underlying22 sz6 rfl ⟨rfl, below_setRow HB1.out (by (focus (first | omega | (simp; done) | (simp; omega)))) _⟩
  · have G1 := Lib.hid g
    obtain ⟨n1, n4⟩ := pool_le g
    obtain ⟨u, hu⟩ : ∃ u, u = uF n x := ⟨_, rfl⟩
    obtain ⟨S, hS⟩ : ∃ S, S = sixN (n - 1) := ⟨_, rfl⟩
    have hNS : sixN n = S * 6 := by rw [hS]; exact six_S n1
    have hS0 : 0 < S := by rw [hS]; have := (sixN_le (n - 1) (by omega)).1; omega
    have s3 := sixN_small n4
    have hS3 : S ≤ 1000 := by omega
    have hsh : ((sixN n : Nat) : Int) / 6 = (S : Int) := by omega
    have HT := Lib.hid (show tabF x n = fun s => (u s : Int) by rw [hu]; exact tab_u n x)
    have HSUM := Lib.hid (show sumF (fun s => (u s : Int)) 121 = ((S * 6 : Nat) : Int) by rw [hu, hS]; exact u_total g)
    have HUL := Lib.hid (show ∀ k, k < 121 → u k ≤ 1296 by intro k hk; rw [hu]; exact u_le g hk)
    have NO := Lib.hid (fun k (hk : k < 121) (hh : u k % S ≠ 0 ∨ (u k ≠ 0 ∧ 30 < k)) => show oneV n x = (fun _ => 0) ∧ (poolB n x && allOk n x) = false from ok_no hk (by rw [← hu, ← hS]; exact okS_false hh))
    have YES := Lib.hid (fun (hh : ∀ j, j < 121 → okS u S j = true) => show oneV n x = fcF u S ∧ (poolB n x && allOk n x) = true by
      have := ok_yes (x := x) g (by rw [← hu, ← hS]; exact hh)
      rw [← hu, ← hS] at this
      exact this)
    rw [G1.out] at NO YES
    clear hu hS hNS
    go_enter Try.func35, Try.ntmps35
    go_wp2_with (first | (refine wpList_alloc_blk rfl 22 rfl zero6 ?_) | fail)
    go_at_call 64
    refine (l2Pool_any o n c x hn _ (H.out.alloc _)).mono ?_
    rintro e w1 ⟨rfl, hb1⟩
    have HB1 := Lib.hid hb1; clear hb1
    have R1 := Lib.hid (show Blk w1 w.heap.size 6 22 (I fun _ => 0) from (Blk.new _ _ _ _).below HB1.out (by simp))
    have P1 := Lib.hid ((H.out.alloc _).below HB1.out)
    have HB1 := Lib.hid (((Below.refl w.heap.size w).alloc (by omega) _).trans (HB1.out.mono (by simp)))
    rw [g]
    clear g
    go_wp2_with fail
    generalize hW : w1.alloc (.cells #[] 3) = W2
    obtain ⟨B, hB⟩ : ∃ B, B = w1.heap.size := ⟨_, rfl⟩
    have I2 := Lib.hid (show Ints W2 w.heap.size (some ⟨B, 0, none⟩) 0 0 (fcF u S) from hW ▸ hB ▸ Ints.empty w1 w.heap.size _ HB1.out.size)
    have R2 := Lib.hid (show Blk W2 w.heap.size 6 22 (I fun _ => 0) from hW ▸ R1.out.alloc _)
    have P2 := Lib.hid (show PoolAt W2 o n x from hW ▸ P1.out.alloc _)
    have HB2 := Lib.hid (show Below w.heap.size w W2 from hW ▸ HB1.out.alloc HB1.out.size _)
    rw [← hB]
    clear hW hB
    go_at_call 65
    refine (l2Table_any o n c x hn G1.out _ P2.out).mono ?_
    rintro e w3 ⟨rfl, hb⟩
    have I3 := Lib.hid (I2.out.below hb)
    have R3 := Lib.hid (R2.out.below hb R2.out.lt)
    have HB3 := Lib.hid (HB2.out.trans (hb.mono HB2.out.size))
    clear hb
    rw [HT.out]
    go_wp2_with fail
    go_at_call 66
    refine (l2All_any n (by omega) _).mono ?_
    rintro e w' ⟨rfl, rfl⟩
    go_wp2_with (first | (refine wpList_alloc_blk rfl 65 rfl zero121 ?_) | (((with_reducible apply wpList_store_new); (case hw => rfl); (case ho => rfl); (case hx => rfl); (case hy => rfl); (case hg => rfl); (case hi => exact sz121); (case h1 => exact fun _ _ => rfl))) | fail)
    generalize hW : w3.alloc (.cells (row 121 (I fun s => (u s : Int))) 65) = W4
    obtain ⟨D, hD⟩ : ∃ D, D = w3.heap.size := ⟨_, rfl⟩
    have T4 := Lib.hid (show Blk W4 D 121 65 (I fun s => (u s : Int)) from hW ▸ hD ▸ Blk.new _ _ _ _)
    have I4 := Lib.hid (show Ints W4 w.heap.size (some ⟨B, 0, none⟩) 0 0 (fcF u S) from hW ▸ I3.out.below ((Below.refl _ _).alloc (Nat.le_refl _) _))
    have R4 := Lib.hid (show Blk W4 w.heap.size 6 22 (I fun _ => 0) from hW ▸ R3.out.alloc _)
    have HB4 := Lib.hid (show Below w.heap.size w W4 from hW ▸ HB3.out.alloc HB3.out.size _)
    rw [← hD]
    clear hW hD I2 I3 R2 R3 P2
    go_loopw [4, 7] (fun a i wr => ∃ k : Nat, k ≤ 121 ∧ i = .int .i64 (k : Int) ∧ Hid (∀ j, j < k → okS u S j = true) ∧ (∃ A cA, a = .slice A (lenF u S k + 0) cA ∧ Ints wr w.heap.size A (lenF u S k + 0) cA (fcF u S)) ∧ Blk wr w.heap.size 6 22 (I fun _ => 0) ∧ Blk wr D 121 65 (I fun s => (u s : Int)) ∧ Below w.heap.size w wr) (fun a i _ => 122 - (intOf i).toNat)
    case atStart => exact ⟨0, by omega, rfl, fun j hj => by omega, ⟨_, _, rfl, I4.out⟩, R4.out, T4.out, HB4.out⟩
    case round =>
      obtain ⟨k, hk, rfl, HK, ⟨A, cA, rfl, hI⟩, hR, hT, hb⟩ := hrel
      clear I4 R4 T4 HB4
      have I5 := Lib.hid hI; have R5 := Lib.hid hR; have T5 := Lib.hid hT; have HB5 := Lib.hid hb
      clear hI hR hT hb
      obtain ⟨l, hl⟩ : ∃ l, l = lenF u S k := ⟨_, rfl⟩
      have HLK := Lib.hid hl
      rw [← hl] at I5
      rw [← hl]
      clear hl
      by_cases hlt : k < 121
      · have d0 : decide ((k : Int) < 121) = true := by simp; omega
        have ule := HUL.out k hlt
        have c1 : wr.cell? ⟨D, k, none⟩ = some (.int .i64 (u k : Int)) := T5.out.cell hlt
        have z1 : ((S : Int) == 0) = false := by simp; omega
        by_cases hr0 : u k % S = 0
        · have hr : ((u k : Nat) : Int) % (S : Int) = 0 := by rw [show ((u k : Nat) : Int) % (S : Int) = ((u k % S : Nat) : Int) from rfl, hr0]; rfl
          by_cases hbad : u k ≠ 0 ∧ 30 < k
          · obtain ⟨hV, hF⟩ := NO.out k hlt (.inr hbad)
            have HV := Lib.hid hV; have HF := Lib.hid hF
            have d2 : decide (0 < u k) = true := by simp; omega
            have d3 : decide ((30 : Int) < (k : Int)) = true := by simp; omega
            clear hV hF hr0 hbad
            go_wp2_with (first | (refine wpList_build0_blk rfl 22 rfl built6 ?_) | (refine wpList_store_blk rfl 22 _ _ rfl (R5.out) rfl rfl sz6 (fun _ _ => rfl) ?_) | fail)
            exact post_blk_tmp rfl (R5.out.setRow _) rfl Try.underlying22 sz6 rfl ⟨by rw [HV.out, HF.out]; rfl, below_setRow HB5.out (by (focus (first | omega | (simp; done) | (simp; omega)))) _⟩
          · have HKN := Lib.hid (show ∀ j, j < k + 1 → okS u S j = true from fun j hj => by
              by_cases e : j = k
              · rw [e]; exact okS_iff.2 ⟨hr0, by omega⟩
              · exact HK.out j (by omega))
            obtain ⟨q, hq⟩ : ∃ q, q = u k / S := ⟨_, rfl⟩
            have hq2 : ((u k : Nat) : Int) / (S : Int) = (q : Int) := by rw [hq]; rfl
            have HN := Lib.hid (show lenF u S (k + 1) = l + q by rw [HLK.out, hq]; rfl)
            have hle : l + q ≤ 6 := by rw [← HN.out]; exact len_le hS0 HSUM.out (by omega) HKN.out
            have HF := Lib.hid (fun m (hm : m < q) => show fcF u S (l + m) = (k : Int) by rw [HLK.out]; exact fcF_at hlt (by rw [← hq]; exact hm))
            by_cases hu0 : u k = 0
            · have hq0 : q = 0 := by rw [hq, hu0, Nat.zero_div]
              clear c1
              have c1 : wr.cell? ⟨D, k, none⟩ = some (.int .i64 0) := by rw [T5.out.cell hlt]; simp [I, hu0]
              rw [hq0] at HN
              clear hr0 hbad hq hu0 hq2 hr hle
              go_wp2
              go_loopw [4, 8] (fun a i wr' => a = .slice A (l + 0) cA ∧ i = .int .i64 0 ∧ wr = wr') (fun a i _ => (intOf i).toNat)
              case atStart => exact ⟨rfl, rfl, rfl⟩
              case round =>
                obtain ⟨rfl, rfl, rfl⟩ := hrel
                go_wp2
                go_roundw
                case rel => exact ⟨k + 1, by omega, by go_num, HKN, ⟨A, cA, by rw [HN.out], by rw [HN.out]; exact I5.out⟩, R5.out, T5.out, HB5.out⟩
                case measure => simp [intOf]; omega
            · have d2 : decide (0 < u k) = true := by simp; omega
              have d3 : decide ((30 : Int) < (k : Int)) = false := by simp; omega
              clear hr0 hbad hq hu0
              go_wp2
              rw [hr]
              clear hr hq2
              go_loopw [4, 8] (fun a i wr => ∃ m : Nat, m ≤ q ∧ i = .int .i64 ((q - m : Nat) : Int) ∧ (∃ A cA, a = .slice A (l + m) cA ∧ Ints wr w.heap.size A (l + m) cA (fcF u S)) ∧ Blk wr w.heap.size 6 22 (I fun _ => 0) ∧ Blk wr D 121 65 (I fun s => (u s : Int)) ∧ Below w.heap.size w wr) (fun a i _ => (intOf i).toNat)
              case atStart => exact ⟨0, by omega, rfl, ⟨A, cA, rfl, I5.out⟩, R5.out, T5.out, HB5.out⟩
              case round =>
                obtain ⟨m, hm, rfl, ⟨A', cA', rfl, hI⟩, hR, hT, hb⟩ := hrel
                clear I5 R5 T5 HB5
                have I6 := Lib.hid hI; have R6 := Lib.hid hR; have T6 := Lib.hid hT; have HB6 := Lib.hid hb
                clear hI hR hT hb
                by_cases hlm : m < q
                · obtain ⟨y, hy⟩ : ∃ y, y = q - m := ⟨_, rfl⟩
                  have d4 : decide (0 < y) = true := by simp; omega
                  have hy1 : 1 ≤ y := by omega
                  have hy2 : y ≤ 6 := by omega
                  have HY := Lib.hid (show ((q - (m + 1) : Nat) : Int) = (y : Int) - 1 by omega)
                  rw [← hy]
                  have Z1 := Lib.hid (show (wr.alloc (.cells #[.int .i64 (k : Int)] 3)).cell? ⟨wr.heap.size, 0, none⟩ = some (.int .i64 (k : Int)) by simp)
                  have Z2 := Lib.hid (I6.out.below ((Below.refl wr.heap.size wr).alloc (Nat.le_refl _) (.cells #[.int .i64 (k : Int)] 3)))
                  have Z3 := Lib.hid (show w.heap.size ≤ (wr.alloc (.cells #[.int .i64 (k : Int)] 3)).heap.size by have := HB6.out.size; simp; omega)
                  have Z4 := Lib.hid (show l + m ≤ 1000000 by omega)
                  have Z5 := Lib.hid (HF.out m hlm)
                  clear hy
                  go_wp2_with (first | (((with_reducible apply wpList_append_int); (case hgd => rfl); (case ho => rfl); (case hs => rfl); (case hx => rfl); (case hS => exact Try.underlying35); (case hown => exact Z2.out); (case hz => exact Z1.out); (case hf => exact Z5.out); (case hm => exact Z4.out); (case hB => exact Z3.out); intro A2 c2 w2 hI2 hg2)) | fail)
                  go_roundw
                  case rel => exact ⟨m + 1, by omega, by rw [HY.out], ⟨A2, c2, rfl, hI2⟩, (R6.out.alloc _).grown hg2 (own_blk_ne Z2.out (R6.out.alloc _) (by decide)), (T6.out.alloc _).grown hg2 (own_blk_ne Z2.out (T6.out.alloc _) (by decide)), Ints.append_below HB6.out I6.out (Nat.le_refl _) hg2⟩
                  case measure => simp [intOf]; omega
                · obtain rfl : m = q := by omega
                  rw [Nat.sub_self]
                  go_wp2
                  go_roundw
                  case rel => exact ⟨k + 1, by omega, by go_num, HKN, ⟨A', cA', by rw [HN.out]; rfl, by rw [HN.out]; exact I6.out⟩, R6.out, T6.out, HB6.out⟩
                  case measure => simp [intOf]; omega
        · obtain ⟨hV, hF⟩ := NO.out k hlt (.inl hr0)
          have HV := Lib.hid hV; have HF := Lib.hid hF
          obtain ⟨r, hr1⟩ : ∃ r, r = u k % S := ⟨_, rfl⟩
          have hr : ((u k : Nat) : Int) % (S : Int) = (r : Int) := by rw [hr1]; rfl
          have d3 : ((r : Int) != 0) = true := by simp; omega
          clear hV hF hr0 hr1
          go_wp2_with (first | (refine wpList_build0_blk rfl 22 rfl built6 ?_) | (refine wpList_store_blk rfl 22 _ _ rfl (R5.out) rfl rfl sz6 (fun _ _ => rfl) ?_) | fail)
          exact post_blk_tmp rfl (R5.out.setRow _) rfl Try.underlying22 sz6 rfl ⟨by rw [HV.out, HF.out]; rfl, below_setRow HB5.out (by (focus (first | omega | (simp; done) | (simp; omega)))) _⟩
      · have d0 : decide ((k : Int) < 121) = false := by simp; omega
        obtain rfl : k = 121 := by omega
        obtain ⟨hV, hF⟩ := YES.out HK.out
        have HV := Lib.hid hV; have HF := Lib.hid hF
        have hl6 : l = 6 := by rw [HLK.out]; exact len_all hS0 HSUM.out HK.out
        subst hl6
        clear hV hF
        go_wp2_with fail
        go_at_call 81
        refine (l5Array_any A cA w.heap.size (fcF u S) _ I5.out).mono ?_
        rintro e w5 ⟨rfl, hb⟩
        have R6 := Lib.hid (R5.out.below hb R5.out.lt)
        have HB6 := Lib.hid (HB5.out.trans (hb.mono HB5.out.size))
        clear hb
        go_wp2_with (first | (refine wpList_store_blk rfl 22 _ _ rfl (R6.out) rfl rfl sz6 (fun _ _ => rfl) ?_) | fail)
        exact post_blk_tmp rfl (R6.out.setRow _) rfl Try.underlying22 sz6 rfl ⟨by rw [HV.out, HF.out]; rfl, below_setRow HB6.out (by (focus (first | omega | (simp; done) | (simp; omega)))) _⟩
end Go.Proofs.Ytiibpnhjdfjdkaa
