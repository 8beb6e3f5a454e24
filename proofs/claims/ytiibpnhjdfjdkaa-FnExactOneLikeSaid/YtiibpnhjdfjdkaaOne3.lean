/- OneLike, the program's side. -/
import Derived.Test.YtiibpnhjdfjdkaaOne2
import Derived.Test.YtiibpnhjdfjdkaaPow
set_option linter.unusedVariables false
set_option linter.unusedSimpArgs false
set_option linter.unusedSectionVars false
namespace Go.Proofs.Ytiibpnhjdfjdkaa
open Go.RowKit
theorem ok_no {n : Nat} {x : Nat → Nat → Int} {k : Nat} (hk : k < 121) (h : okS (uF n x) (sixN (n - 1)) k = false) : oneV n x = (fun _ => 0) ∧ (poolB n x && allOk n x) = false := by
  have e : (poolB n x && allOk n x) = false := by
    unfold allOk
    rw [allB_no hk h, Bool.and_false]
  exact ⟨by unfold oneV; rw [e]; rfl, e⟩
theorem ok_yes {n : Nat} {x : Nat → Nat → Int} (g : poolB n x = true) (h : ∀ j, j < 121 → okS (uF n x) (sixN (n - 1)) j = true) : oneV n x = fcF (uF n x) (sixN (n - 1)) ∧ (poolB n x && allOk n x) = true := by
  have e : (poolB n x && allOk n x) = true := by
    unfold allOk
    rw [g, (allB_iff (fun s => okS (uF n x) (sixN (n - 1)) s) 121).2 h]
    rfl
  exact ⟨by unfold oneV; rw [e]; rfl, e⟩
theorem okS_false {u : Nat → Nat} {S k : Nat} (h : u k % S ≠ 0 ∨ (u k ≠ 0 ∧ 30 < k)) : okS u S k = false := by
  cases q : okS u S k
  · rfl
  · have := okS_iff.1 q; omega
set_option maxHeartbeats 1000000 in
set_option maxRecDepth 100000 in
theorem iOneLike_any (o : Option Addr) (n c : Nat) (x : Nat → Nat → Int) (hn : n ≤ 1048576) (w : World) (h : PoolAt w o n x) : Calls Try.prog 36 #[poolV o n c] w fun e w' => e = .returned (.tuple #[.agg (row 6 (I (oneV n x))), .bool (poolB n x && allOk n x)]) ∧ Below w.heap.size w w' := by
  have H := Lib.hid h; clear h
  cases g : poolB n x
  · have HV := Lib.hid (show oneV n x = fun _ => 0 by unfold oneV; rw [g]; rfl)
    rw [HV.out]
    go_enter Try.func36, Try.ntmps36
    go_wp2_with (first | (refine wpList_alloc_blk rfl 22 rfl zero6 ?_) | fail)
    go_at_call 67
    refine (isPool_any o n c x hn _ (H.out.alloc _)).mono ?_
    rintro e w1 ⟨rfl, hb1⟩
    have HB1 := Lib.hid hb1; clear hb1
    have R1 := Lib.hid (show Blk w1 w.heap.size 6 22 (I fun _ => 0) from (Blk.new _ _ _ _).below HB1.out (by simp))
    have HB1 := Lib.hid (((Below.refl w.heap.size w).alloc (by omega) _).trans (HB1.out.mono (by simp)))
    rw [g]
    go_wp2_with (first | (refine wpList_build0_blk rfl 22 rfl built6 ?_) | (refine wpList_store_blk rfl 22 _ _ rfl (R1.out) rfl rfl sz6 (fun _ _ => rfl) ?_) | fail)
    exact post_blk_tmp rfl (R1.out.setRow _) rfl Try.underlying22 sz6 rfl ⟨rfl, below_setRow HB1.out (by (focus (first | omega | (simp; done) | (simp; omega)))) _⟩
  · have G1 := Lib.hid g
    have G2 := Lib.hid (show poolB n x = true → True from fun _ => trivial)
    obtain ⟨n1, n4⟩ := pool_le g
    obtain ⟨u, hu⟩ : ∃ u, u = uF n x := ⟨_, rfl⟩
    obtain ⟨S, hS⟩ : ∃ S, S = sixN (n - 1) := ⟨_, rfl⟩
    have HN := Lib.hid (show sixN n = S * 6 by rw [hS]; exact six_S n1)
    have hS0 : 0 < S := by rw [hS]; have := (sixN_le (n - 1) (by omega)).1; omega
    have s1 := (sixN_le n (by omega)).1
    have s3 := sixN_small n4
    have HT := Lib.hid (show tabF x n = fun s => (u s : Int) by rw [hu]; exact tab_u n x)
    have HSUM := Lib.hid (show sumF (fun s => (u s : Int)) 121 = ((S * 6 : Nat) : Int) by rw [hu, hS]; exact u_total g)
    have HUL := Lib.hid (show ∀ k, k < 121 → u k ≤ 1296 by intro k hk; rw [hu]; exact u_le g hk)
    have NO := Lib.hid (fun k (hk : k < 121) (hh : u k % S ≠ 0 ∨ (u k ≠ 0 ∧ 30 < k)) => show oneV n x = (fun _ => 0) ∧ (poolB n x && allOk n x) = false from ok_no hk (by rw [← hu, ← hS]; exact okS_false hh))
    have YES := Lib.hid (fun (hh : ∀ j, j < 121 → okS u S j = true) => show oneV n x = fcF u S ∧ (poolB n x && allOk n x) = true by
      have := ok_yes (x := x) g (by rw [← hu, ← hS]; exact hh)
      rw [← hu, ← hS] at this
      exact this)
    rw [G1.out] at NO YES
    have GT := Lib.hid (show (true && allOk n x) = allOk n x from rfl)
    clear hu hS
    go_enter Try.func36, Try.ntmps36
    go_wp2_with (first | (refine wpList_alloc_blk rfl 22 rfl zero6 ?_) | fail)
    go_at_call 67
    refine (isPool_any o n c x hn _ (H.out.alloc _)).mono ?_
    rintro e w1 ⟨rfl, hb1⟩
    have HB1 := Lib.hid hb1; clear hb1
    have R1 := Lib.hid (show Blk w1 w.heap.size 6 22 (I fun _ => 0) from (Blk.new _ _ _ _).below HB1.out (by simp))
    have P1 := Lib.hid ((H.out.alloc _).below HB1.out)
    have HB1 := Lib.hid (((Below.refl w.heap.size w).alloc (by omega) _).trans (HB1.out.mono (by simp)))
    rw [g]
    clear g
    go_wp2_with (first | (refine wpList_alloc_blk rfl 76 rfl zero31 ?_) | fail)
    obtain ⟨B, hB⟩ : ∃ B, B = w1.heap.size := ⟨_, rfl⟩
    generalize hW : w1.alloc (.cells (row 31 (I fun _ => 0)) 76) = W2
    have C2 := Lib.hid (show Blk W2 B 31 76 (I fun _ => 0) from hW ▸ hB ▸ Blk.new _ _ _ _)
    have R2 := Lib.hid (show Blk W2 w.heap.size 6 22 (I fun _ => 0) from hW ▸ R1.out.alloc _)
    have P2 := Lib.hid (show PoolAt W2 o n x from hW ▸ P1.out.alloc _)
    have HB2 := Lib.hid (show Below w.heap.size w W2 from hW ▸ HB1.out.alloc HB1.out.size _)
    have HNB := Lib.hid (show w.heap.size < B from hB ▸ R1.out.lt)
    rw [← hB]
    clear hW hB
    go_at_call 62
    refine (sums_any o n c x hn G1.out _ P2.out).mono ?_
    rintro e w3 ⟨rfl, hb⟩
    have C3 := Lib.hid (C2.out.below hb C2.out.lt)
    have R3 := Lib.hid (R2.out.below hb R2.out.lt)
    have HB3 := Lib.hid (HB2.out.trans (hb.mono HB2.out.size))
    clear hb
    rw [HT.out]
    go_wp2
    go_loopw [13] (fun i wr => ∃ k : Nat, k ≤ 121 ∧ i = .int .i64 (k : Int) ∧ Hid (∀ j, j < k → okS u S j = true) ∧ Blk wr w.heap.size 6 22 (I fun _ => 0) ∧ Blk wr B 31 76 (I fun j => if j < k then ((u j / S : Nat) : Int) else 0) ∧ Below w.heap.size w wr) (fun i _ => 122 - (intOf i).toNat)
    case atStart => exact ⟨0, by omega, rfl, fun j hj => by omega, R3.out, C3.out.ext (fun i _ => by simp [I]), HB3.out⟩
    case round =>
      obtain ⟨k, hk, rfl, HK, hR, hC, hb⟩ := hrel
      clear R3 C3 HB3
      have R4 := Lib.hid hR; have C4 := Lib.hid hC; have HB4 := Lib.hid hb
      clear hR hC hb
      by_cases hlt : k < 121
      · have d0 : decide ((k : Int) < 121) = true := by simp; omega
        have ule := HUL.out k hlt
        by_cases hz : u k = 0
        · have HKN := Lib.hid (show ∀ j, j < k + 1 → okS u S j = true from fun j hj => by
            by_cases e : j = k
            · rw [e]; exact okS_iff.2 ⟨by rw [hz]; exact Nat.zero_mod _, .inl hz⟩
            · exact HK.out j (by omega))
          have HZ := Lib.hid hz
          have d1 : ((u k : Int) == 0) = true := by simp [hz]
          clear hz
          go_wp2_with (first | (((with_reducible apply wpList_index121); (case hw => rfl); (case ho => rfl); (case hx => rfl); (case hy => rfl); (case hk => exact hlt))) | fail)
          go_roundw
          case rel => exact ⟨k + 1, by omega, by go_num, HKN, R4.out, C4.out.ext (fun i _ => by
            simp only [I]
            by_cases e : i = k
            · rw [e, if_neg (by omega), if_pos (by omega), HZ.out, Nat.zero_div]; rfl
            · by_cases e2 : i < k
              · rw [if_pos e2, if_pos (by omega)]
              · rw [if_neg e2, if_neg (by omega)]), HB4.out⟩
          case measure => simp [intOf]; omega
        · have d1 : ((u k : Int) == 0) = false := by simp; omega
          by_cases hk30 : 30 < k
          · have d2 : decide ((30 : Int) < (k : Int)) = true := by simp; omega
            obtain ⟨hV, hF⟩ := NO.out k hlt (.inr ⟨hz, hk30⟩)
            have HV := Lib.hid hV; have HF := Lib.hid hF
            clear hV hF hz hk30
            go_wp2_with (first | (((with_reducible apply wpList_index121); (case hw => rfl); (case ho => rfl); (case hx => rfl); (case hy => rfl); (case hk => exact hlt))) | (refine wpList_build0_blk rfl 22 rfl built6 ?_) | (refine wpList_store_blk rfl 22 _ _ rfl (R4.out) rfl rfl sz6 (fun _ _ => rfl) ?_) | fail)
            exact post_blk_tmp rfl (R4.out.setRow _) rfl Try.underlying22 sz6 rfl ⟨by rw [HV.out, HF.out]; rfl, below_setRow HB4.out (by (focus (first | omega | (simp; done) | (simp; omega)))) _⟩
          · have d2 : decide ((30 : Int) < (k : Int)) = false := by simp; omega
            have hrr : ((u k : Nat) : Int) * 6 % ((sixN n : Nat) : Int) = ((u k * 6 % sixN n : Nat) : Int) := by rw [show ((u k : Nat) : Int) * 6 = ((u k * 6 : Nat) : Int) by rw [Int.natCast_mul]; rfl]; rfl
            have hrm : u k * 6 % sixN n = u k % S * 6 := by rw [HN.out]; exact Nat.mul_mod_mul_right _ _ _
            have z2 : (((sixN n : Nat) : Int) == 0) = false := by simp; omega
            by_cases hr0 : u k % S = 0
            · have hr : ((u k : Nat) : Int) * 6 % ((sixN n : Nat) : Int) = 0 := by rw [hrr, hrm, hr0]; rfl
              have HKN := Lib.hid (show ∀ j, j < k + 1 → okS u S j = true from fun j hj => by
                by_cases e : j = k
                · rw [e]; exact okS_iff.2 ⟨hr0, .inr (by omega)⟩
                · exact HK.out j (by omega))
              obtain ⟨q, hq⟩ : ∃ q, q = u k / S := ⟨_, rfl⟩
              have hq2 : ((u k : Nat) : Int) * 6 / ((sixN n : Nat) : Int) = (q : Int) := by
                rw [hq, show ((u k : Nat) : Int) * 6 = ((u k * 6 : Nat) : Int) by rw [Int.natCast_mul]; rfl, HN.out]
                rw [← Nat.mul_div_mul_right (u k) S (show 0 < 6 by omega)]
                rfl
              have HQ := Lib.hid hq
              have f1 : wr.frozen? ⟨B, k, none⟩ = false := C4.out.free _
              have c1 : wr.cell? ⟨B, k, none⟩ = some (.int .i64 0) := by rw [C4.out.cell (by omega)]; simp only [I]; rw [if_neg (by omega)]
              clear hrr hrm hr0 hq hz
              go_wp2_with (first | (((with_reducible apply wpList_index121); (case hw => rfl); (case ho => rfl); (case hx => rfl); (case hy => rfl); (case hk => exact hlt))) | (go_at_call 68; refine (power_any n (by omega) _).mono ?_; rintro e w' ⟨rfl, rfl⟩) | fail)
              go_roundw
              case rel => exact ⟨k + 1, by omega, by go_num, HKN, R4.out.other _ _ (by have := HNB.out; show w.heap.size ≠ B; omega), (C4.out.set (by omega) _).ext (fun i _ => by
                simp only [I, upd]
                by_cases e : i = k
                · rw [if_pos e, e, if_pos (by omega), ← HQ.out]
                · rw [if_neg e]
                  by_cases e2 : i < k
                  · rw [if_pos e2, if_pos (by omega)]
                  · rw [if_neg e2, if_neg (by omega)]), HB4.out.setCell (by have := HNB.out; show w.heap.size ≤ B; omega) _⟩
              case measure => simp [intOf]; omega
            · obtain ⟨hV, hF⟩ := NO.out k hlt (.inl hr0)
              have HV := Lib.hid hV; have HF := Lib.hid hF
              obtain ⟨r, hr1⟩ : ∃ r, r = u k * 6 % sixN n := ⟨_, rfl⟩
              have hr : ((u k : Nat) : Int) * 6 % ((sixN n : Nat) : Int) = (r : Int) := by rw [hrr, hr1]
              have d3 : ((r : Int) != 0) = true := by simp; omega
              clear hV hF hrr hrm hr0 hr1 hz
              go_wp2_with (first | (((with_reducible apply wpList_index121); (case hw => rfl); (case ho => rfl); (case hx => rfl); (case hy => rfl); (case hk => exact hlt))) | (go_at_call 68; refine (power_any n (by omega) _).mono ?_; rintro e w' ⟨rfl, rfl⟩) | (refine wpList_build0_blk rfl 22 rfl built6 ?_) | (refine wpList_store_blk rfl 22 _ _ rfl (R4.out) rfl rfl sz6 (fun _ _ => rfl) ?_) | fail)
              exact post_blk_tmp rfl (R4.out.setRow _) rfl Try.underlying22 sz6 rfl ⟨by rw [HV.out, HF.out]; rfl, below_setRow HB4.out (by (focus (first | omega | (simp; done) | (simp; omega)))) _⟩
      · have d0 : decide ((k : Int) < 121) = false := by simp; omega
        obtain rfl : k = 121 := by omega
        obtain ⟨hV, hF⟩ := YES.out HK.out
        have HV := Lib.hid hV; have HF := Lib.hid hF
        have HL31 := Lib.hid (len_le hS0 HSUM.out (k := 31) (by omega) (fun j hj => HK.out j (by omega)))
        have HL6 := Lib.hid (show lenF u S 31 = 6 by rw [← len_tail HK.out 121 (by omega) (by omega)]; exact len_all hS0 HSUM.out HK.out)
        have C5 := Lib.hid (show Blk wr B 31 76 (I fun j => ((u j / S : Nat) : Int)) from C4.out.ext (fun i hi => by simp only [I]; rw [if_pos (by omega)]))
        clear hV hF
        go_wp2_with (first | ((with_reducible apply wpList_load_blk); (case hw => rfl); (case ho => rfl); (case hx => rfl); (case hb => with_reducible exact C5.out); (case hu => exact Try.underlying76); (case hi => exact sz31)) | fail)
        go_at_call 82
        refine (die_any u S HL31.out _).mono ?_
        rintro e w5 ⟨rfl, hb⟩
        have R5 := Lib.hid (R4.out.below hb R4.out.lt)
        have HB5 := Lib.hid (HB4.out.trans (hb.mono HB4.out.size))
        have HR := Lib.hid (show row 6 (I fun i => if i < lenF u S 31 then fcF u S i else 0) = row 6 (I (fcF u S)) from row_ext (fun i hi => by simp only [I]; rw [HL6.out, if_pos hi]))
        clear hb
        rw [HR.out]
        go_wp2_with (first | (refine wpList_store_blk rfl 22 _ _ rfl (R5.out) rfl rfl sz6 (fun _ _ => rfl) ?_) | fail)
        exact post_blk_tmp rfl (R5.out.setRow _) rfl Try.underlying22 sz6 rfl ⟨by rw [HV.out, HF.out]; rfl, below_setRow HB5.out (by (focus (first | omega | (simp; done) | (simp; omega)))) _⟩
end Go.Proofs.Ytiibpnhjdfjdkaa
