/- Contracts of functions of this program, used by the laws of this seat. No condition beyond what each theorem states. -/
import Derived.Test.YtiibpnhjdfjdkaaTable2
import Derived.Test.YtiibpnhjdfjdkaaSpread
set_option linter.unusedVariables false
set_option linter.unusedSimpArgs false
set_option linter.unusedSectionVars false
namespace Go.Proofs.Ytiibpnhjdfjdkaa
open Go.RowKit
theorem idx121v (f : Nat → Int) (k : Nat) (hk : k < 121) (w : World) : (Instr.index 65 (.agg (row 121 (I f))) (.int .i64 (k : Int))).run Try.prog w = .ok (.int .i64 (f k)) w := by
  have h1 : ∀ w, (sizeOf 3).run Try.prog w = .ok 1 w := fun _ => by kernel_rfl
  have h2 : ∀ w, (isAgg 3).run Try.prog w = .ok false w := fun _ => by kernel_rfl
  have h4 : (row 121 (I f))[k]? = some (.int .i64 (f k)) := row_get hk
  have h5 : (0 : Int) ≤ (k : Int) ∧ (k : Int) < 121 := by omega
  simp [Instr.index, run_underlying Try.underlying65, asIntOf, h1, h2, part, h4, h5, go_sem]
  intro h
  omega
theorem wpList_index121 {ops : Array Oper} {rest : List Oper} {o : Oper} {a : Act} {w : World} {Q : Exit → Act → World → Prop} (hw : Region.wanted o (yielded ops a.tmps) = true) {p q : Operand} (ho : o.op = .index 65 p q) {f : Nat → Int} {k : Nat}
    (hx : a.eval p = .agg (row 121 (I f))) (hy : a.eval q = .int .i64 (k : Int)) (hk : k < 121) (h : wpList Try.prog ops Q rest (a.put o.dst (.int .i64 (f k))) w) : wpList Try.prog ops Q (o :: rest) a w := wpList_indexv hw ho hx hy (idx121v f k hk) h

set_option maxHeartbeats 2000000 in
theorem sums_any (o : Option Addr) (n c : Nat) (x : Nat → Nat → Int) (hn : n ≤ 1048576) (g : poolB n x = true) (w : World) (h : PoolAt w o n x) : Calls Try.prog 62 #[poolV o n c] w fun e w' => e = .returned (.agg (row 121 (I (tabF x n)))) ∧ Below w.heap.size w w' := by
  have H := Lib.hid h; clear h
  obtain ⟨n1, n4⟩ := pool_le g
  have HS := Lib.hid (pool_small g)
  clear g
  have O0 := Lib.hid (show Blk ((w.alloc (.cells (row 121 (I fun _ => 0)) 65)).alloc (.cells (row 121 (I fun _ => 0)) 65)) (w.heap.size + 1) 121 65 (I fun _ => 0) from Blk.newS (by simp))
  have c00 : ((w.alloc (.cells (row 121 (I fun _ => 0)) 65)).alloc (.cells (row 121 (I fun _ => 0)) 65)).cell? ⟨w.heap.size + 1, 0, none⟩ = some (.int .i64 0) := O0.out.cell (by omega)
  have f00 : ((w.alloc (.cells (row 121 (I fun _ => 0)) 65)).alloc (.cells (row 121 (I fun _ => 0)) 65)).frozen? ⟨w.heap.size + 1, 0, none⟩ = false := O0.out.free 0
  go_enter Try.func62, Try.ntmps62
  go_wp2_with (first | (refine wpList_alloc_blk rfl 65 rfl zero121 ?_) | fail)
  go_loopw [14] (fun i wr => ∃ k : Nat, k ≤ n ∧ i = .int .i64 k ∧ Blk wr w.heap.size 121 65 (I fun _ => 0) ∧ Blk wr (w.heap.size + 1) 121 65 (I (tabF x k)) ∧ Below w.heap.size w wr) (fun i _ => n - (intOf i).toNat)
  case atStart => exact ⟨0, by omega, rfl, (Blk.new _ _ _ _).alloc _, Blk.newAt (by simp) (by rw [row_set _ (by omega)]; exact row_ext (fun j _ => by simp only [upd, I, tabF]; split <;> rfl)), ((Below.refl _ _).alloc (by omega) _).alloc (by simp) _⟩
  case round =>
    obtain ⟨k, hk, rfl, hR, hO, hb⟩ := hrel
    have R1 := Lib.hid hR; have O1 := Lib.hid hO; have HB1 := Lib.hid hb
    clear hR hO hb O0 c00 f00
    by_cases hlt : k < n
    · have d0 : decide ((k : Int) < (n : Int)) = true := by simp; omega
      obtain ⟨wo, rfl⟩ : ∃ wo : World, wo = wr := ⟨_, rfl⟩
      obtain ⟨a, rfl, hd⟩ := dice6 (H.out.below HB1.out) hlt
      have HC := Lib.hid (hd k hlt).2
      clear hd
      go_wp2_with (first | ((with_reducible apply wpList_load_cells); (case hw => rfl); (case ho => rfl); (case hx => rfl); (case hc => with_reducible exact HC.out); (case ha => exact Try.isAgg22); (case hi => exact sz6)) | (refine wpList_alloc_blk rfl 22 rfl zero6 ?_) | (((with_reducible apply wpList_store_new); (case hw => rfl); (case ho => rfl); (case hx => rfl); (case hy => rfl); (case hg => rfl); (case hi => exact sz6); (case h1 => exact fun _ _ => rfl))) | (refine wpList_alloc_blk rfl 65 rfl zero121 ?_) | ((with_reducible apply wpList_load_blk); (case hw => rfl); (case ho => rfl); (case hx => rfl); (case hb => with_reducible exact (O1.out.alloc _).alloc _); (case hu => exact Try.underlying65); (case hi => exact sz121)) | fail)
      go_loopw [19] (fun i wr => ∃ s : Nat, s ≤ 121 ∧ i = .int .i64 s ∧ Blk wr w.heap.size 121 65 (I fun _ => 0) ∧ Blk wr (w.heap.size + 1) 121 65 (I (tabF x k)) ∧ Blk wr wo.heap.size 6 22 (I (x k)) ∧ Blk wr (wo.heap.size + 1) 121 65 (I (rowF (x k) (tabF x k) s)) ∧ Below w.heap.size w wr) (fun i _ => 121 - (intOf i).toNat)
      case atStart => exact ⟨0, by omega, rfl, (R1.out.alloc _).alloc _, (O1.out.alloc _).alloc _, (Blk.new _ _ _ _).alloc _, Blk.newS (by simp), (HB1.out.alloc HB1.out.size _).alloc (by have := HB1.out.size; simp; omega) _⟩
      case round =>
        obtain ⟨s, hs, rfl, hR, hO, hD, hN, hb⟩ := hrel
        have n2 : w.heap.size ≠ wo.heap.size + 1 := by have := R1.out.lt; omega
        have n3 : w.heap.size + 1 ≠ wo.heap.size + 1 := by have := O1.out.lt; omega
        have NE := Lib.hid (And.intro n2 n3)
        have NB := Lib.hid (show w.heap.size ≤ wo.heap.size + 1 by have := HB1.out.size; omega)
        clear n2 n3 R1 O1 HB1 HC
        have R2 := Lib.hid hR; have O2 := Lib.hid hO; have D2 := Lib.hid hD; have N2 := Lib.hid hN; have HB2 := Lib.hid hb
        clear hR hO hN hD hb
        by_cases hls : s < 121
        · have d1 : decide ((s : Int) < 121) = true := by simp; omega
          obtain ⟨wi, rfl⟩ : ∃ wi : World, wi = wr := ⟨_, rfl⟩
          obtain ⟨t1, t2⟩ := tabF_bd x k s
          have t3 : ((726 ^ k : Nat) : Int) ≤ 1000000000000 := by
            have : 726 ^ k ≤ 726 ^ 4 := Nat.pow_le_pow_right (by omega) (by omega)
            have : (726 : Nat) ^ 4 = 277809109776 := by decide
            omega
          by_cases hpos : 0 < tabF x k s
          · have d3 : (tabF x k s == 0) = false := by simp; omega
            have hs30 : s ≤ 90 := by
              by_cases h : s ≤ 90
              · exact h
              · have := tabF_far HS.out k (by omega) s (by omega); omega
            have HF := Lib.hid (show rowF (x k) (tabF x k) (s + 1) = addF (x k) (tabF x k s) s (rowF (x k) (tabF x k) s) 6 by simp only [rowF]; rw [if_pos hpos])
            go_wp2_with (first | (((with_reducible apply wpList_index121); (case hw => rfl); (case ho => rfl); (case hx => rfl); (case hy => rfl); (case hk => exact hls))) | ((with_reducible apply wpList_load_blk); (case hw => rfl); (case ho => rfl); (case hx => rfl); (case hb => with_reducible exact D2.out); (case hu => exact Try.underlying22); (case hi => exact sz6)) | fail)
            go_loopw [26] (fun i wr => ∃ q : Nat, q ≤ 6 ∧ i = .int .i64 q ∧ Blk wr w.heap.size 121 65 (I fun _ => 0) ∧ Blk wr (w.heap.size + 1) 121 65 (I (tabF x k)) ∧ Blk wr wo.heap.size 6 22 (I (x k)) ∧ Blk wr (wo.heap.size + 1) 121 65 (I (addF (x k) (tabF x k s) s (rowF (x k) (tabF x k) s) q)) ∧ Below w.heap.size w wr) (fun i _ => 6 - (intOf i).toNat)
            case atStart => exact ⟨0, by omega, rfl, R2.out, O2.out, D2.out, N2.out, HB2.out⟩
            case round =>
              obtain ⟨q, hq, rfl, hR, hO, hD, hN, hb⟩ := hrel
              clear R2 O2 N2 D2 HB2
              by_cases hlq : q < 6
              · have d4 : decide ((q : Int) < 6) = true := by simp; omega
                obtain ⟨f1, f2⟩ := HS.out k hlt q hlq
                obtain ⟨p, hp⟩ := Int.eq_ofNat_of_zero_le f1
                have hp30 : p ≤ 30 := by omega
                have hsp : s + p < 121 := by omega
                have c2 : wr.cell? ⟨wo.heap.size + 1, s + p, none⟩ = some (.int .i64 (addF (x k) (tabF x k s) s (rowF (x k) (tabF x k) s) q (s + p))) := hN.cell hsp
                have f0 : wr.frozen? ⟨wo.heap.size + 1, s + p, none⟩ = false := hN.free _
                obtain ⟨b1, b2⟩ := addF_bd (d := x k) (s := s) (M := ((726 ^ k : Nat) : Int)) (A := ((726 ^ k : Nat) : Int) * (6 * s : Nat)) ⟨t1, t2⟩ (rowF_bd (d := x k) (Int.natCast_nonneg _) (tabF_bd x k) s) q (s + p)
                have b3 : addF (x k) (tabF x k s) s (rowF (x k) (tabF x k) s) q (s + p) ≤ 1000000000000000 := by
                  have h1 : ((726 ^ k : Nat) : Int) * ((6 * s : Nat) : Int) ≤ 1000000000000 * 540 := Int.mul_le_mul t3 (by omega) (by omega) (by omega)
                  have h2 : ((726 ^ k : Nat) : Int) * (q : Int) ≤ 1000000000000 * 6 := Int.mul_le_mul t3 (by omega) (by omega) (by omega)
                  omega
                have HP := Lib.hid (show (x k q).toNat = p by omega)
                have R3 := Lib.hid hR; have O3 := Lib.hid hO; have D3 := Lib.hid hD; have N3 := Lib.hid hN; have HB3 := Lib.hid hb
                clear hR hO hN hD hb b2 f1 f2
                go_wp2_with (first | (((with_reducible apply wpList_index6); (case hw => rfl); (case ho => rfl); (case hx => rfl); (case hy => rfl); (case hk => exact hlq))) | fail)
                go_roundw
                case rel =>
                  refine ⟨q + 1, by omega, by go_num, R3.out.other _ _ NE.out.1, O3.out.other _ _ NE.out.2, D3.out.other _ _ (ne01 _), (N3.out.set hsp _).ext (fun j _ => ?_), HB3.out.setCell NB.out _⟩
                  simp only [addF, upd, I, HP.out]
                  split <;> rfl
                case measure => simp [intOf]; omega
              · obtain rfl : q = 6 := by omega
                have R3 := Lib.hid hR; have O3 := Lib.hid hO; have D3 := Lib.hid hD; have N3 := Lib.hid hN; have HB3 := Lib.hid hb
                clear hR hO hN hD hb
                go_wp2
                go_roundw
                case rel => exact ⟨s + 1, by omega, by go_num, R3.out, O3.out, D3.out, by rw [HF.out]; exact N3.out, HB3.out⟩
                case measure => simp [intOf]; omega
          · have d3 : (tabF x k s == 0) = true := by simp; omega
            have HF := Lib.hid (show rowF (x k) (tabF x k) (s + 1) = rowF (x k) (tabF x k) s by simp only [rowF]; rw [if_neg hpos])
            go_wp2_with (first | (((with_reducible apply wpList_index121); (case hw => rfl); (case ho => rfl); (case hx => rfl); (case hy => rfl); (case hk => exact hls))) | fail)
            go_roundw
            case rel => exact ⟨s + 1, by omega, by go_num, R2.out, O2.out, D2.out, by rw [HF.out]; exact N2.out, HB2.out⟩
            case measure => simp [intOf]; omega
        · obtain rfl : s = 121 := by omega
          go_wp2_with (first | ((with_reducible apply wpList_load_blk); (case hw => rfl); (case ho => rfl); (case hx => rfl); (case hb => with_reducible exact N2.out); (case hu => exact Try.underlying65); (case hi => exact sz121)) | (refine wpList_store_blk rfl 65 _ _ rfl (O2.out) rfl rfl sz121 (fun _ _ => rfl) ?_) | fail)
          go_roundw
          case rel => exact ⟨k + 1, by omega, by go_num, R2.out.setRowOther _ _ (ne01 _), O2.out.setRow _, below_setRow HB2.out (by (focus (first | omega | (simp; done) | (simp; omega)))) _⟩
          case measure => simp [intOf]; omega
    · have HE := Lib.hid (show k = n by omega)
      go_wp2_with (first | ((with_reducible apply wpList_load_blk); (case hw => rfl); (case ho => rfl); (case hx => rfl); (case hb => with_reducible exact O1.out); (case hu => exact Try.underlying65); (case hi => exact sz121)) | (refine wpList_store_blk rfl 65 _ _ rfl (R1.out) rfl rfl sz121 (fun _ _ => rfl) ?_) | fail)
      exact post_blk rfl (R1.out.setRow _) rfl Try.underlying65 sz121 rfl ⟨by rw [HE.out], below_setRow HB1.out (by (focus (first | omega | (simp; done) | (simp; omega)))) _⟩
end Go.Proofs.Ytiibpnhjdfjdkaa
