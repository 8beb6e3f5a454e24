/- Contracts of functions of this program, used by the laws of this seat. No condition beyond what each theorem states. -/
import Derived.Test.YtiibpnhjdfjdkaaTable
set_option linter.unusedVariables false
set_option linter.unusedSimpArgs false
set_option linter.unusedSectionVars false
namespace Go.Proofs.Ytiibpnhjdfjdkaa
open Go.RowKit
theorem built121_1 : Try.prog.built 65 [(0, .int .i64 1)] = some (row 121 (I fun i => if i = 0 then 1 else 0)) := by kernel_rfl
set_option maxHeartbeats 2000000 in
theorem l2Table_any (o : Option Addr) (n c : Nat) (x : Nat → Nat → Int) (hn : n ≤ 1048576) (g : poolB n x = true) (w : World) (h : PoolAt w o n x) : Calls Try.prog 65 #[poolV o n c] w fun e w' => e = .returned (.agg (row 121 (I (tabF x n)))) ∧ Below w.heap.size w w' := by
  have H := Lib.hid h; clear h
  obtain ⟨n1, n4⟩ := pool_le g
  have HS := Lib.hid (pool_small g)
  clear g
  go_enter Try.func65, Try.ntmps65
  go_wp2_with (first | (refine wpList_alloc_blk rfl 65 rfl zero121 ?_) | (((with_reducible apply wpList_build1_blk); (case hw => rfl); (case ho => rfl); (case hx => rfl); (case hb => exact built121_1))) | (((with_reducible apply wpList_store_new); (case hw => rfl); (case ho => rfl); (case hx => rfl); (case hy => rfl); (case hg => rfl); (case hi => exact sz121); (case h1 => exact fun _ _ => rfl))) | fail)
  go_loopw [4] (fun i wr => ∃ k : Nat, k ≤ n ∧ i = .int .i64 k ∧ Blk wr w.heap.size 121 65 (I fun _ => 0) ∧ Blk wr (w.heap.size + 1) 121 65 (I (tabF x k)) ∧ Below w.heap.size w wr) (fun i _ => n - (intOf i).toNat)
  case atStart => exact ⟨0, by omega, rfl, (Blk.new _ _ _ _).alloc _, Blk.newS (by simp), ((Below.refl _ _).alloc (by omega) _).alloc (by simp) _⟩
  case round =>
    obtain ⟨k, hk, rfl, hR, hO, hb⟩ := hrel
    have R1 := Lib.hid hR; have O1 := Lib.hid hO; have HB1 := Lib.hid hb
    clear hR hO hb
    by_cases hlt : k < n
    · have d0 : decide ((k : Int) < (n : Int)) = true := by simp; omega
      obtain ⟨wo, rfl⟩ : ∃ wo : World, wo = wr := ⟨_, rfl⟩
      go_wp2_with (first | (refine wpList_build0_blk rfl 65 rfl built121 ?_) | (refine wpList_alloc_blk rfl 65 rfl zero121 ?_) | (((with_reducible apply wpList_store_new); (case hw => rfl); (case ho => rfl); (case hx => rfl); (case hy => rfl); (case hg => rfl); (case hi => exact sz121); (case h1 => exact fun _ _ => rfl))) | fail)
      go_loopw [6] (fun i wr => ∃ s : Nat, s ≤ 121 ∧ i = .int .i64 s ∧ Blk wr w.heap.size 121 65 (I fun _ => 0) ∧ Blk wr (w.heap.size + 1) 121 65 (I (tabF x k)) ∧ Blk wr wo.heap.size 121 65 (I (rowF (x k) (tabF x k) s)) ∧ Below w.heap.size w wr) (fun i _ => 121 - (intOf i).toNat)
      case atStart => exact ⟨0, by omega, rfl, R1.out.alloc _, O1.out.alloc _, Blk.new _ _ _ _, HB1.out.alloc HB1.out.size _⟩
      case round =>
        obtain ⟨s, hs, rfl, hR, hO, hN, hb⟩ := hrel
        have n2 : w.heap.size ≠ wo.heap.size := by have := R1.out.lt; omega
        have n3 : w.heap.size + 1 ≠ wo.heap.size := by have := O1.out.lt; omega
        have NE := Lib.hid (And.intro n2 n3)
        have NB := Lib.hid HB1.out.size
        clear n2 n3 R1 O1 HB1
        have R2 := Lib.hid hR; have O2 := Lib.hid hO; have N2 := Lib.hid hN; have HB2 := Lib.hid hb
        clear hR hO hN hb
        by_cases hls : s < 121
        · have d1 : decide ((s : Int) < 121) = true := by simp; omega
          obtain ⟨wi, rfl⟩ : ∃ wi : World, wi = wr := ⟨_, rfl⟩
          obtain ⟨t1, t2⟩ := tabF_bd x k s
          have t3 : ((726 ^ k : Nat) : Int) ≤ 1000000000000 := by
            have : 726 ^ k ≤ 726 ^ 4 := Nat.pow_le_pow_right (by omega) (by omega)
            have : (726 : Nat) ^ 4 = 277809109776 := by decide
            omega
          by_cases hpos : 0 < tabF x k s
          · have d3 : decide ((0 : Int) < tabF x k s) = true := by simp [hpos]
            have hs30 : s ≤ 90 := by
              by_cases h : s ≤ 90
              · exact h
              · have := tabF_far HS.out k (by omega) s (by omega); omega
            have HF := Lib.hid (show rowF (x k) (tabF x k) (s + 1) = addF (x k) (tabF x k s) s (rowF (x k) (tabF x k) s) 6 by simp only [rowF]; rw [if_pos hpos])
            go_wp2
            go_loopw [7] (fun i wr => ∃ q : Nat, q ≤ 6 ∧ i = .int .i64 q ∧ Blk wr w.heap.size 121 65 (I fun _ => 0) ∧ Blk wr (w.heap.size + 1) 121 65 (I (tabF x k)) ∧ Blk wr wo.heap.size 121 65 (I (addF (x k) (tabF x k s) s (rowF (x k) (tabF x k) s) q)) ∧ Below w.heap.size w wr) (fun i _ => 6 - (intOf i).toNat)
            case atStart => exact ⟨0, by omega, rfl, R2.out, O2.out, N2.out, HB2.out⟩
            case round =>
              obtain ⟨q, hq, rfl, hR, hO, hN, hb⟩ := hrel
              clear R2 O2 N2 HB2
              by_cases hlq : q < 6
              · have d4 : decide ((q : Int) < 6) = true := by simp; omega
                obtain ⟨a, rfl, hd⟩ := dice6 (H.out.below hb) hlt
                obtain ⟨f1, f2⟩ := HS.out k hlt q hlq
                obtain ⟨p, hp⟩ := Int.eq_ofNat_of_zero_le f1
                have hp30 : p ≤ 30 := by omega
                have c0 : wr.cell? ((a.add (k * 6)).add q) = some (.int .i64 (p : Int)) := by rw [(hd k hlt).2 q hlq]; simp only [I, hp]
                have c1 : wr.cell? ⟨w.heap.size + 1, s, none⟩ = some (.int .i64 (tabF x k s)) := hO.cell hls
                have hsp : s + p < 121 := by omega
                have c2 : wr.cell? ⟨wo.heap.size, s + p, none⟩ = some (.int .i64 (addF (x k) (tabF x k s) s (rowF (x k) (tabF x k) s) q (s + p))) := hN.cell hsp
                have f0 : wr.frozen? ⟨wo.heap.size, s + p, none⟩ = false := hN.free _
                obtain ⟨b1, b2⟩ := addF_bd (d := x k) (s := s) (M := ((726 ^ k : Nat) : Int)) (A := ((726 ^ k : Nat) : Int) * (6 * s : Nat)) ⟨t1, t2⟩ (rowF_bd (d := x k) (Int.natCast_nonneg _) (tabF_bd x k) s) q (s + p)
                have b3 : addF (x k) (tabF x k s) s (rowF (x k) (tabF x k) s) q (s + p) ≤ 1000000000000000 := by
                  have h1 : ((726 ^ k : Nat) : Int) * ((6 * s : Nat) : Int) ≤ 1000000000000 * 540 := Int.mul_le_mul t3 (by omega) (by omega) (by omega)
                  have h2 : ((726 ^ k : Nat) : Int) * (q : Int) ≤ 1000000000000 * 6 := Int.mul_le_mul t3 (by omega) (by omega) (by omega)
                  omega
                have HP := Lib.hid (show (x k q).toNat = p by omega)
                have R3 := Lib.hid hR; have O3 := Lib.hid hO; have N3 := Lib.hid hN; have HB3 := Lib.hid hb
                clear hR hO hN hb hd b2 hp f1 f2
                go_wp2
                go_region
                go_wp2
                go_roundw
                case rel =>
                  refine ⟨q + 1, by omega, by go_num, (R3.out.drewN _).other _ _ NE.out.1, (O3.out.drewN _).other _ _ NE.out.2, ((N3.out.drewN _).set hsp _).ext (fun j _ => ?_), (below_drewN HB3.out _).setCell NB.out _⟩
                  simp only [addF, upd, I, HP.out]
                  split <;> rfl
                case measure => simp [intOf]; omega
              · obtain rfl : q = 6 := by omega
                have R3 := Lib.hid hR; have O3 := Lib.hid hO; have N3 := Lib.hid hN; have HB3 := Lib.hid hb
                clear hR hO hN hb
                go_wp2
                go_roundw
                case rel => exact ⟨s + 1, by omega, by go_num, R3.out, O3.out, by rw [HF.out]; exact N3.out, HB3.out⟩
                case measure => simp [intOf]; omega
          · have d3 : decide ((0 : Int) < tabF x k s) = false := by simp; omega
            have HF := Lib.hid (show rowF (x k) (tabF x k) (s + 1) = rowF (x k) (tabF x k) s by simp only [rowF]; rw [if_neg hpos])
            go_wp2
            go_loopw [7] (fun i wr => ∃ q : Nat, q ≤ 6 ∧ i = .int .i64 q ∧ Blk wr w.heap.size 121 65 (I fun _ => 0) ∧ Blk wr (w.heap.size + 1) 121 65 (I (tabF x k)) ∧ Blk wr wo.heap.size 121 65 (I (rowF (x k) (tabF x k) s)) ∧ Below w.heap.size w wr) (fun i _ => 6 - (intOf i).toNat)
            case atStart => exact ⟨0, by omega, rfl, R2.out, O2.out, N2.out, HB2.out⟩
            case round =>
              obtain ⟨q, hq, rfl, hR, hO, hN, hb⟩ := hrel
              clear R2 O2 N2 HB2
              have c1 : wr.cell? ⟨w.heap.size + 1, s, none⟩ = some (.int .i64 (tabF x k s)) := hO.cell hls
              have R3 := Lib.hid hR; have O3 := Lib.hid hO; have N3 := Lib.hid hN; have HB3 := Lib.hid hb
              clear hR hO hN hb
              by_cases hlq : q < 6
              · have d4 : decide ((q : Int) < 6) = true := by simp; omega
                go_wp2
                go_roundw
                case rel => exact ⟨q + 1, by omega, by go_num, R3.out, O3.out, N3.out, HB3.out⟩
                case measure => simp [intOf]; omega
              · obtain rfl : q = 6 := by omega
                go_wp2
                go_roundw
                case rel => exact ⟨s + 1, by omega, by go_num, R3.out, O3.out, by rw [HF.out]; exact N3.out, HB3.out⟩
                case measure => simp [intOf]; omega
        · obtain rfl : s = 121 := by omega
          go_wp2_with (first | ((with_reducible apply wpList_load_blk); (case hw => rfl); (case ho => rfl); (case hx => rfl); (case hb => with_reducible exact N2.out); (case hu => exact Try.underlying65); (case hi => exact sz121)) | (refine wpList_store_blk rfl 65 _ _ rfl (O2.out) rfl rfl sz121 (fun _ _ => rfl) ?_) | fail)
          go_roundw
          case rel => exact ⟨k + 1, by omega, by go_num, R2.out.setRowOther _ _ (ne01 _), O2.out.setRow _, below_setRow HB2.out (by (focus (first | omega | (simp; done) | (simp; omega)))) _⟩
          case measure => simp [intOf]; omega
    · have HE := Lib.hid (show k = n by omega)
      go_wp2_with (first | ((with_reducible apply wpList_load_blk); (case hw => rfl); (case ho => rfl); (case hx => rfl); (case hb => with_reducible exact O1.out); (case hu => exact Try.underlying65); (case hi => exact sz121)) | (refine wpList_store_blk rfl 65 _ _ rfl (R1.out) rfl rfl sz121 (fun _ _ => rfl) ?_) | fail)
      exact post_blk rfl (R1.out.setRow _) rfl Try.underlying65 sz121 rfl ⟨by rw [HE.out], below_setRow HB1.out (by (focus (first | omega | (simp; done) | (simp; omega)))) _⟩
end Go.Proofs.Ytiibpnhjdfjdkaa
