/- The reference's l4Hits. -/
import Derived.Test.YtlgpejiepogopaaHits
import Derived.Test.YtlgpejiepogopaaTable2
set_option linter.unusedVariables false
set_option linter.unusedSimpArgs false
set_option linter.unusedSectionVars false
namespace Go.Proofs.Ytlgpejiepogopaa
open Go.RowKit
theorem built5_1 : Try.prog.built 30 [(0, .int .i64 1)] = some (row 5 (I (upd (fun _ => 0) 0 1))) := by kernel_rfl
theorem stepF_bd {f : Nat → Int} {h : Int} (hf : ∀ k, 0 ≤ f k ∧ f k ≤ 1296) (hh : 0 ≤ h ∧ h ≤ 6) (m k : Nat) : 0 ≤ stepF f h m k ∧ stepF f h m k ≤ 15552 := by
  rw [stepF_val]
  have h1 := mul_le (B := 6) (hf k) (b := 6 - h) (by omega)
  have h2 := mul_le (B := 6) (hf (k - 1)) (b := h) (by omega)
  (repeat' split) <;> omega
set_option maxHeartbeats 2000000 in
theorem l4Hits_any (o : Option Addr) (n c : Nat) (x : Nat → Nat → Int) (hn : n ≤ 1048576) (g : poolB n x = true) (z : Int) (w : World) (h : PoolAt w o n x) : Calls Try.prog 77 #[poolV o n c, .int .i64 z] w fun e w' => e = .returned (.agg (row 5 (I (hitsF x z n)))) ∧ Below w.heap.size w w' := by
  have H := Lib.hid h; clear h
  obtain ⟨n1, n4⟩ := pool_le g
  clear g
  go_enter Try.func77, Try.ntmps77
  go_wp2_with (first | (refine wpList_alloc_blk rfl 30 rfl zero5 ?_) | (((with_reducible apply wpList_build1_blk); (case hw => rfl); (case ho => rfl); (case hx => rfl); (case hb => exact built5_1))) | (((with_reducible apply wpList_store_new); (case hw => rfl); (case ho => rfl); (case hx => rfl); (case hy => rfl); (case hg => rfl); (case hi => exact sz5); (case h1 => exact fun _ _ => rfl))) | fail)
  go_loopw [6] (fun i wr => ∃ k : Nat, k ≤ n ∧ i = .int .i64 (k : Int) ∧ Blk wr w.heap.size 5 30 (I fun _ => 0) ∧ Blk wr (w.heap.size + 1) 5 30 (I (hitsF x z k)) ∧ Below w.heap.size w wr) (fun i _ => n - (intOf i).toNat)
  case atStart => exact ⟨0, by omega, rfl, (Blk.new _ _ _ _).alloc _, Blk.newS (by simp), ((Below.refl _ _).alloc (by omega) _).alloc (by simp) _⟩
  case round =>
    obtain ⟨k, hk, rfl, hR, hO, hb⟩ := hrel
    have R1 := Lib.hid hR; have O1 := Lib.hid hO; have HB1 := Lib.hid hb
    clear hR hO hb
    by_cases hlt : k < n
    · have d0 : decide ((k : Int) < (n : Int)) = true := by simp; omega
      obtain ⟨wo, rfl⟩ : ∃ wo : World, wo = wr := ⟨_, rfl⟩
      go_wp2
      go_loopw [7, 8] (fun t i wr => ∃ q : Nat, q ≤ 6 ∧ i = .int .i64 (q : Int) ∧ t = .int .i64 ((hc (x k) z q : Nat) : Int) ∧ wo = wr) (fun t i _ => 6 - (intOf i).toNat)
      case atStart => exact ⟨0, by omega, rfl, rfl, rfl⟩
      case round =>
        obtain ⟨q, hq, rfl, rfl, rfl⟩ := hrel
        have hl := hc_le (x k) z q
        obtain ⟨u, hu⟩ : ∃ u, u = hc (x k) z q := ⟨_, rfl⟩
        rw [← hu] at hl
        rw [← hu]
        by_cases hlq : q < 6
        · have d4 : decide ((q : Int) < 6) = true := by simp; omega
          obtain ⟨a, rfl, hd⟩ := dice6 (H.out.below HB1.out) hlt
          have c0 : wo.cell? ((a.add (k * 6)).add q) = some (.int .i64 (x k q)) := (hd k hlt).2 q hlq
          clear hd
          by_cases hz : z ≤ x k q
          · have HN := Lib.hid (show hc (x k) z (q + 1) = u + 1 by simp only [hc]; rw [if_pos hz, hu])
            clear hu
            have d1 : decide (z ≤ x k q) = true := by simp; omega
            go_wp2
            go_roundw
            case rel => exact ⟨q + 1, by omega, by go_num, by rw [HN.out]; go_num, trivial⟩
            case measure => simp [intOf]; omega
          · have HN := Lib.hid (show hc (x k) z (q + 1) = u by simp only [hc]; rw [if_neg hz, hu]; rfl)
            clear hu
            have d1 : decide (z ≤ x k q) = false := by simp; omega
            go_wp2
            go_roundw
            case rel => exact ⟨q + 1, by omega, by go_num, by rw [HN.out], trivial⟩
            case measure => simp [intOf]; omega
        · obtain rfl : q = 6 := by omega
          have d4 : decide ((6 : Int) < 6) = false := by decide
          have HU := Lib.hid hu
          clear hu
          go_wp2_with (first | (refine wpList_build0_blk rfl 30 rfl built5 ?_) | (refine wpList_alloc_blk rfl 30 rfl zero5 ?_) | (((with_reducible apply wpList_store_new); (case hw => rfl); (case ho => rfl); (case hx => rfl); (case hy => rfl); (case hg => rfl); (case hi => exact sz5); (case h1 => exact fun _ _ => rfl))) | fail)
          go_loopw [10] (fun i wr => ∃ m : Nat, m ≤ k + 1 ∧ i = .int .i64 (m : Int) ∧ Blk wr w.heap.size 5 30 (I fun _ => 0) ∧ Blk wr (w.heap.size + 1) 5 30 (I (hitsF x z k)) ∧ Blk wr wo.heap.size 5 30 (I (stepF (hitsF x z k) (u : Int) m)) ∧ Below w.heap.size w wr) (fun i _ => k + 1 - (intOf i).toNat)
          case atStart => exact ⟨0, by omega, rfl, R1.out.alloc _, O1.out.alloc _, Blk.new _ _ _ _, HB1.out.alloc HB1.out.size _⟩
          case round =>
            obtain ⟨m, hm, rfl, hR, hO, hN, hb⟩ := hrel
            have n2 : w.heap.size ≠ wo.heap.size := by have := R1.out.lt; omega
            have n3 : w.heap.size + 1 ≠ wo.heap.size := by have := O1.out.lt; omega
            have NE := Lib.hid (And.intro n2 n3)
            have NB := Lib.hid HB1.out.size
            clear n2 n3 R1 O1 HB1
            have R2 := Lib.hid hR; have O2 := Lib.hid hO; have N2 := Lib.hid hN; have HB2 := Lib.hid hb
            clear hR hO hN hb
            obtain ⟨f, hf⟩ : ∃ f, f = hitsF x z k := ⟨_, rfl⟩
            obtain ⟨t, ht⟩ : ∃ t, t = stepF (hitsF x z k) (u : Int) m := ⟨_, rfl⟩
            have HF := Lib.hid hf; have HT := Lib.hid ht
            have BF := Lib.hid (show ∀ k, 0 ≤ f k ∧ f k ≤ 1296 from hf ▸ hitsF_bd x z (by omega))
            have BT := Lib.hid (show ∀ k, 0 ≤ t k ∧ t k ≤ 15552 from ht ▸ stepF_bd (hitsF_bd x z (by omega)) (by omega) m)
            rw [← hf] at O2
            rw [← ht] at N2
            clear hf ht
            by_cases hlm : m ≤ k
            · have d1 : decide ((m : Int) ≤ (k : Int)) = true := by simp; omega
              obtain ⟨p, hp⟩ : ∃ p, p = f m * (6 - (u : Int)) := ⟨_, rfl⟩
              obtain ⟨r, hr⟩ : ∃ r, r = f m * (u : Int) := ⟨_, rfl⟩
              obtain ⟨p1, p2⟩ := mul_le (B := 6) (BF.out m) (b := 6 - (u : Int)) (by omega)
              obtain ⟨r1, r2⟩ := mul_le (B := 6) (BF.out m) (b := (u : Int)) (by omega)
              rw [← hp] at p1 p2
              rw [← hr] at r1 r2
              have hp2 : f m * (6 - (u : Int)) = p := hp.symm
              have hr2 : f m * (u : Int) = r := hr.symm
              have HS := Lib.hid (show stepF (hitsF x z k) (u : Int) (m + 1) = upd (upd t m (t m + p)) (m + 1) (t (m + 1) + r) by
                simp only [stepF]
                rw [← HT.out, ← HF.out, ← hp, ← hr]
                congr 1
                simp only [upd]
                rw [if_neg (by omega)])
              clear hp hr
              have c1 : wr.cell? ⟨w.heap.size + 1, m, none⟩ = some (.int .i64 (f m)) := O2.out.cell (by omega)
              have c2 : wr.cell? ⟨wo.heap.size, m, none⟩ = some (.int .i64 (t m)) := N2.out.cell (by omega)
              have f0 : wr.frozen? ⟨wo.heap.size, m, none⟩ = false := N2.out.free _
              obtain ⟨t1, t2⟩ := BT.out m
              obtain ⟨t3, t4⟩ := BT.out (m + 1)
              obtain ⟨f1, f2⟩ := BF.out m
              go_wp2
              go_region
              generalize hW : World.drew (World.setCell wr ⟨wo.heap.size, m, none⟩ (.int .i64 (t m + p))) = W1
              have R3 := Lib.hid (show Blk W1 w.heap.size 5 30 (I fun _ => 0) from hW ▸ (R2.out.other _ _ NE.out.1).drew)
              have O3 := Lib.hid (show Blk W1 (w.heap.size + 1) 5 30 (I f) from hW ▸ (O2.out.other _ _ NE.out.2).drew)
              have N3 := Lib.hid (show Blk W1 wo.heap.size 5 30 (I (upd t m (t m + p))) from hW ▸ (by rw [← I_upd]; exact (N2.out.set (by omega) _).drew))
              have HB3 := Lib.hid (show Below w.heap.size w W1 from hW ▸ below_drewN (HB2.out.setCell NB.out _) 1)
              clear hW c1 c2 f0
              have c1 : W1.cell? ⟨w.heap.size + 1, m, none⟩ = some (.int .i64 (f m)) := O3.out.cell (by omega)
              have c2 : W1.cell? ⟨wo.heap.size, m + 1, none⟩ = some (.int .i64 (t (m + 1))) := by
                rw [N3.out.cell (by omega)]
                simp only [I, upd]
                rw [if_neg (by omega)]
              have f0 : W1.frozen? ⟨wo.heap.size, m + 1, none⟩ = false := N3.out.free _
              go_wp2
              go_region
              go_wp2
              go_roundw
              case rel => exact ⟨m + 1, by omega, by go_num, (R3.out.other _ _ NE.out.1).drew, by rw [← HF.out]; exact (O3.out.other _ _ NE.out.2).drew, by rw [HS.out, ← I_upd]; exact (N3.out.set (by omega) _).drew, below_drewN (HB3.out.setCell NB.out _) 1⟩
              case measure => simp [intOf]; omega
            · have d1 : decide ((m : Int) ≤ (k : Int)) = false := by simp; omega
              obtain rfl : m = k + 1 := by omega
              have HS := Lib.hid (show t = hitsF x z (k + 1) by rw [HT.out, HU.out]; rfl)
              rw [HS.out] at N2
              go_wp2_with (first | ((with_reducible apply wpList_load_blk); (case hw => rfl); (case ho => rfl); (case hx => rfl); (case hb => with_reducible exact N2.out); (case hu => exact Try.underlying30); (case hi => exact sz5)) | (refine wpList_store_blk rfl 30 _ _ rfl (O2.out) rfl rfl sz5 (fun _ _ => rfl) ?_) | fail)
              go_roundw
              case rel => exact ⟨k + 1, by omega, by go_num, R2.out.setRowOther _ _ (ne01 _), O2.out.setRow _, below_setRow HB2.out (by (focus (first | omega | (simp; done) | (simp; omega)))) _⟩
              case measure => simp [intOf]; omega
    · have HE := Lib.hid (show k = n by omega)
      go_wp2_with (first | ((with_reducible apply wpList_load_blk); (case hw => rfl); (case ho => rfl); (case hx => rfl); (case hb => with_reducible exact O1.out); (case hu => exact Try.underlying30); (case hi => exact sz5)) | (refine wpList_store_blk rfl 30 _ _ rfl (R1.out) rfl rfl sz5 (fun _ _ => rfl) ?_) | fail)
      exact post_blk rfl (R1.out.setRow _) rfl Try.underlying30 sz5 rfl ⟨by rw [HE.out], below_setRow HB1.out (by (focus (first | omega | (simp; done) | (simp; omega)))) _⟩
end Go.Proofs.Ytlgpejiepogopaa
