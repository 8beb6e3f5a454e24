/- The reference's l4Pattern: how often each number of a roll came up, the greatest first. -/
import Derived.Test.YtbfhfadfjgfmaaaSortD
import Derived.Test.YtbfhfadfjgfmaaaKept
import Derived.Test.YtbfhfadfjgfmaaaCompR
import Derived.Deep.RegionHeld
set_option linter.unusedVariables false
set_option linter.unusedSimpArgs false
set_option linter.unusedSectionVars false
namespace Go.Proofs.Ytbfhfadfjgfmaaa
open Go.RowKit
def cP (f : Nat → Int) : Nat → Nat → Int
  | 0 => fun _ => 0
  | k + 1 => upd (cP f k) (runN f (k + 1) - 1) (cP f k (runN f (k + 1) - 1) + 1)
def bubK (K : Nat) (d : Nat → Int) : Nat → Nat → Int
  | 0 => d
  | i + 1 => passF (bubK K d i) K
def patF (f : Nat → Int) (n : Nat) : Nat → Int := ngF (bubK 3 (ngF (cP f n)) 4)
theorem runN_pos (f : Nat → Int) : ∀ k, 1 ≤ k → 1 ≤ runN f k
  | 0, h => by omega
  | 1, _ => by simp [runN]
  | k + 2, _ => by have := runN_pos f (k + 1) (by omega); simp only [runN] at *; omega
theorem runN_step (f : Nat → Int) (k : Nat) : runN f k ≤ runN f (k + 1) ∧ runN f (k + 1) ≤ runN f k + 1 := by
  simp only [runN]
  split <;> omega
theorem cP_pos (f : Nat → Int) : ∀ k j, 0 ≤ cP f k j ∧ cP f k j ≤ k ∧ (1 ≤ cP f k j ↔ j < runN f k)
  | 0, j => by simp [cP, runN]
  | k + 1, j => by
    have ih := cP_pos f k j
    have ih2 := cP_pos f k (runN f (k + 1) - 1)
    have h1 := runN_pos f (k + 1) (by omega)
    obtain ⟨h2, h3⟩ := runN_step f k
    have h4 : k = 0 → runN f k = 0 := fun e => by subst e; rfl
    have h5 : 1 ≤ k → 1 ≤ runN f k := runN_pos f k
    simp only [cP, upd]
    split
    · rename_i e
      subst e
      refine ⟨by omega, by omega, ?_⟩
      constructor <;> intro <;> omega
    · refine ⟨by omega, by omega, ?_⟩
      rw [ih.2.2]
      constructor <;> intro <;> omega
theorem hc_pass4 (f : Nat → Int) (z : Int) : ∀ k, k ≤ 3 → hc (ngF (passF f k)) z 4 = hc (ngF f) z 4
  | 0, _ => rfl
  | k + 1, h => by
    simp only [passF]
    rw [hc_swap, if_neg (by omega), hc_pass4 f z k (by omega)]
theorem hc_bub4 (d : Nat → Int) (z : Int) : ∀ i, hc (ngF (bubK 3 d i)) z 4 = hc (ngF d) z 4
  | 0 => rfl
  | i + 1 => by simp only [bubK]; rw [hc_pass4 _ z 3 (by omega), hc_bub4 d z i]
theorem hc_upto {F : Nat → Int} {z : Int} {m : Nat} : ∀ n, (∀ j, j < n → (z ≤ F j ↔ j < m)) → hc F z n = min m n
  | 0, _ => by simp [hc]
  | n + 1, h => by
    simp only [hc]
    rw [hc_upto n (fun j hj => h j (by omega))]
    have := h n (by omega)
    by_cases c : n < m
    · rw [if_pos (this.2 c)]; omega
    · rw [if_neg (fun e => c (this.1 e))]; omega
theorem ng_ng (f : Nat → Int) : ngF (ngF f) = f := by funext j; simp [ngF]
theorem pat_hc (f : Nat → Int) (n : Nat) (hn : n ≤ 4) : hc (patF f n) 1 4 = runN f n := by
  unfold patF
  rw [hc_bub4, ng_ng, hc_upto (m := runN f n) 4 (fun j _ => (cP_pos f n j).2.2)]
  have := runN_le f n
  omega
theorem pass_mem (f : Nat → Int) (a b : Int) (K : Nat) (h : ∀ j, a ≤ f j ∧ f j ≤ b) : ∀ k j, a ≤ passF f k j ∧ passF f k j ≤ b
  | 0, j => h j
  | k + 1, j => by
    have ih := pass_mem f a b K h k
    simp only [passF]
    rcases swap_from (passF f k) k j with e | ⟨_, e⟩ | ⟨_, e⟩ <;> rw [e] <;> exact ih _
theorem bub_mem (f : Nat → Int) (a b : Int) (K : Nat) (h : ∀ j, a ≤ f j ∧ f j ≤ b) : ∀ i j, a ≤ bubK K f i j ∧ bubK K f i j ≤ b
  | 0, j => h j
  | i + 1, j => pass_mem _ a b K (bub_mem f a b K h i) K j
theorem patF_bd (f : Nat → Int) (n : Nat) (j : Nat) : 0 ≤ patF f n j ∧ patF f n j ≤ n := by
  have h := bub_mem (ngF (cP f n)) (-(n : Int)) 0 3 (fun j => by have := cP_pos f n j; simp only [ngF]; omega) 4 j
  unfold patF
  simp only [ngF] at *
  omega
theorem ng_upd2 (g : Nat → Int) (k : Nat) (h : g (k + 1) < g k) : upd (upd (ngF g) k (- g (k + 1))) (k + 1) (- g k) = ngF (swapF g k) := by
  unfold swapF
  rw [if_pos h]
  funext j
  simp only [upd, ngF]
  split
  · rfl
  · split <;> rfl
set_option maxHeartbeats 2000000 in
theorem l4Pattern_any (rb n : Nat) (r : Nat → Int) (hn : n ≤ 4) (w : World) (h : Blk w rb n 3 (I r)) : Calls Try.prog 48 #[.slice (some ⟨rb, 0, none⟩) n n] w fun e w' => e = .returned (.agg (row 4 (I (patF (plF r n) n)))) ∧ Below w.heap.size w w' := by
  have H := Lib.hid h; clear h
  go_enter Try.func48, Try.ntmps48
  go_wp2_with (first | (refine wpList_alloc_blk rfl 29 rfl zero4 ?_) | (refine wpList_build0_blk rfl 29 rfl built4 ?_) | (((with_reducible apply wpList_store_new); (case hw => rfl); (case ho => rfl); (case hx => rfl); (case hy => rfl); (case hg => rfl); (case hi => exact sz4); (case h1 => exact fun _ _ => rfl))) | fail)
  generalize hW : (w.alloc (.cells (row 4 (I fun _ => 0)) 29)).alloc (.cells (row 4 (I fun _ => 0)) 29) = W0
  have R0 := Lib.hid (show Blk W0 w.heap.size 4 29 (I fun _ => 0) from hW ▸ (Blk.new _ _ _ _).alloc _)
  have O0 := Lib.hid (show Blk W0 (w.heap.size + 1) 4 29 (I fun _ => 0) from hW ▸ Blk.newS (by simp))
  have HB0 := Lib.hid (show Below w.heap.size w W0 from hW ▸ ((Below.refl _ _).alloc (by omega) _).alloc (by simp) _)
  have H0 := Lib.hid (H.out.below HB0.out H.out.lt)
  clear hW H
  go_at_call 91
  refine (l4Places_any rb n r (by omega) _ H0.out).mono ?_
  rintro e w1 ⟨gp, cp, rfl, hI, hb⟩
  have R1 := Lib.hid (R0.out.below hb R0.out.lt); have O1 := Lib.hid (O0.out.below hb O0.out.lt); have HB1 := Lib.hid (HB0.out.trans (hb.mono HB0.out.size))
  obtain ⟨f, hf⟩ : ∃ f, f = plF r n := ⟨_, rfl⟩
  rw [← hf] at hI
  have HFF := Lib.hid hf
  have C1 := Lib.hid (show ∀ k, k < n → W0.heap.size ≤ gp ∧ w1.cell? ⟨gp, k, none⟩ = some (.int .i64 (f k)) from fun k hk => by
    obtain ⟨g2, e0, hg, _, c1⟩ := hI.cell hk
    obtain rfl : gp = g2 := by injection e0 with e0; injection e0
    exact ⟨hg, c1⟩)
  have SZ := Lib.hid (show w.heap.size + 1 < W0.heap.size from O0.out.lt)
  clear hI hb hf R0 O0 HB0
  go_wp2
  go_loopw [4, 6] (fun v i wr => ∃ k : Nat, k ≤ n ∧ i = .int .i64 (k : Int) ∧ v = .int .i64 ((runN f k : Int) - 1) ∧ Blk wr w.heap.size 4 29 (I fun _ => 0) ∧ Blk wr (w.heap.size + 1) 4 29 (I (cP f k)) ∧ (∀ p, p < n → wr.cell? ⟨gp, p, none⟩ = some (.int .i64 (f p))) ∧ Below w.heap.size w wr) (fun v i _ => n - (intOf i).toNat)
  case atStart => exact ⟨0, by omega, rfl, rfl, R1.out, O1.out, fun p hp => (C1.out p hp).2, HB1.out⟩
  case round =>
    obtain ⟨k, hk, rfl, rfl, hR, hO, hC, hb⟩ := hrel
    clear R1 O1 HB1
    have R2 := Lib.hid hR; have O2 := Lib.hid hO; have C2 := Lib.hid hC; have HB2 := Lib.hid hb
    clear hR hO hC hb
    by_cases hlt : k < n
    · have d0 : decide ((k : Int) < (n : Int)) = true := by simp; omega
      obtain ⟨q, hq⟩ : ∃ q, q = runN f (k + 1) - 1 := ⟨_, rfl⟩
      have hp1 := runN_pos f (k + 1) (by omega)
      obtain ⟨hs1, hs2⟩ := runN_step f k
      have hrl := runN_le f (k + 1)
      have q3 : q < 4 := by omega
      have HQ := Lib.hid (show cP f (k + 1) = upd (cP f k) q (cP f k q + 1) by rw [hq]; rfl)
      have hv : ((runN f (k + 1) : Nat) : Int) - 1 = (q : Int) := by omega
      have c1 : wr.cell? ⟨gp, k, none⟩ = some (.int .i64 (f k)) := C2.out k hlt
      have c3 : wr.cell? ⟨w.heap.size + 1, q, none⟩ = some (.int .i64 (cP f k q)) := O2.out.cell q3
      have f3 : wr.frozen? ⟨w.heap.size + 1, q, none⟩ = false := O2.out.free _
      obtain ⟨e1, e2, _⟩ := cP_pos f k q
      have C3 := Lib.hid (show ∀ (k' : Nat) (v : Value) (p : Nat), p < n → ((wr.drewN k').setCell ⟨w.heap.size + 1, q, none⟩ v).cell? ⟨gp, p, none⟩ = some (.int .i64 (f p)) from fun k' v p hp => by
        rw [World.cell?_setCell_far _ _ _ _ (by
          have := (C1.out p hp).1
          have := SZ.out
          show w.heap.size + 1 ≠ gp
          omega)]
        exact C2.out p hp)
      have HV := Lib.hid hv
      by_cases hk0 : k = 0
      · subst hk0
        have hr0 : runN f (0 + 1) = 1 := rfl
        obtain rfl : q = 0 := by omega
        have d1 : decide (((0 : Nat) : Int) = 0) = true := by simp
        have e0 : ((runN f 0 : Nat) : Int) - 1 = -1 := by simp [runN]
        have HE0 := Lib.hid e0
        rw [e0]
        clear e0 hv hq hr0 hs1 hs2 hp1 hrl
        go_wp2
        go_quiet (fail)
        go_wp2
        go_roundw
        case rel => exact ⟨1, by omega, by go_num, by rw [show ((runN f 1 : Nat) : Int) - 1 = 0 from rfl], (R2.out.drewN _).other _ _ (ne01 _), by rw [HQ.out, ← I_upd]; exact (O2.out.drewN _).set (by omega) _, C3.out _ _, (below_drewN HB2.out _).setCell (by simp) _⟩
        case measure => simp [intOf]; omega
      · obtain ⟨m, hm⟩ : ∃ m, k = m + 1 := ⟨k - 1, by omega⟩
        have hsub : (k : Int) - 1 = (m : Int) := by omega
        have d1 : ((k : Int) == 0) = false := by simp; omega
        have c2 : wr.cell? ⟨gp, m, none⟩ = some (.int .i64 (f m)) := C2.out m (by omega)
        have hp0 := runN_pos f k (by omega)
        obtain ⟨a, ha⟩ : ∃ a : Nat, ((runN f k : Nat) : Int) - 1 = (a : Int) := ⟨runN f k - 1, by omega⟩
        have a4 : a < 4 := by omega
        by_cases hne : f k = f m
        · have hR : runN f (k + 1) = runN f k + (if k = 0 ∨ f k ≠ f m then 1 else 0) := by subst hm; rfl
          rw [if_neg (by simp [hne]; omega)] at hR
          have hqa : q = a := by omega
          subst hqa
          have d2 : (f k == f m) = true := by simp [hne]
          have d3 : (f k != f m) = false := by simp [hne]
          rw [ha]
          clear hR hm hv hq hs1 hs2 hp1 hrl ha hp0 hne hk0
          go_wp2
          go_quiet (fail)
          go_wp2
          go_roundw
          case rel => exact ⟨k + 1, by omega, by go_num, by rw [HV.out], (R2.out.drewN _).other _ _ (ne01 _), by rw [HQ.out, ← I_upd]; exact (O2.out.drewN _).set (by omega) _, C3.out _ _, (below_drewN HB2.out _).setCell (by simp) _⟩
          case measure => simp [intOf]; omega
        · have hR : runN f (k + 1) = runN f k + (if k = 0 ∨ f k ≠ f m then 1 else 0) := by subst hm; rfl
          rw [if_pos (by simp [hne])] at hR
          have hqa : q = a + 1 := by omega
          have d2 : (f k == f m) = false := by simp [hne]
          have d3 : (f k != f m) = true := by simp [hne]
          have e9 : (q : Int) = (a : Int) + 1 := by omega
          rw [ha]
          subst hqa
          clear hR hm hv hq hs1 hs2 hp1 hrl ha hp0 hne hk0 e9
          go_wp2
          go_quiet (fail)
          go_wp2
          go_roundw
          case rel => exact ⟨k + 1, by omega, by go_num, by rw [HV.out]; go_num, (R2.out.drewN _).other _ _ (ne01 _), by rw [HQ.out, ← I_upd]; exact (O2.out.drewN _).set (by omega) _, C3.out _ _, (below_drewN HB2.out _).setCell (by simp) _⟩
          case measure => simp [intOf]; omega
    · have d0 : decide ((k : Int) < (n : Int)) = false := by simp; omega
      obtain rfl : k = n := by omega
      have O3 := Lib.hid (show Blk wr (w.heap.size + 1) 4 29 (I (ngF (bubK 3 (ngF (cP f k)) 0))) from by simp only [bubK, ng_ng]; exact O2.out)
      clear O2 C2
      go_wp2
      go_loopw [7] (fun i wr => ∃ m : Nat, m ≤ 4 ∧ i = .int .i64 (m : Int) ∧ Blk wr w.heap.size 4 29 (I fun _ => 0) ∧ Blk wr (w.heap.size + 1) 4 29 (I (ngF (bubK 3 (ngF (cP f k)) m))) ∧ Below w.heap.size w wr) (fun i _ => 4 - (intOf i).toNat)
      case atStart => exact ⟨0, by omega, rfl, R2.out, O3.out, HB2.out⟩
      case round =>
        obtain ⟨m, hm, rfl, hR, hO, hb⟩ := hrel
        clear R2 O3 HB2
        have R3 := Lib.hid hR; have O3 := Lib.hid hO; have HB3 := Lib.hid hb
        clear hR hO hb
        by_cases hlm : m < 4
        · have d1 : decide ((m : Int) < 4) = true := by simp; omega
          go_wp2
          go_loopw [8] (fun i wr => ∃ j : Nat, j ≤ 3 ∧ i = .int .i64 (j : Int) ∧ Blk wr w.heap.size 4 29 (I fun _ => 0) ∧ Blk wr (w.heap.size + 1) 4 29 (I (ngF (passF (bubK 3 (ngF (cP f k)) m) j))) ∧ Below w.heap.size w wr) (fun i _ => 3 - (intOf i).toNat)
          case atStart => exact ⟨0, by omega, rfl, R3.out, O3.out, HB3.out⟩
          case round =>
            obtain ⟨j, hj, rfl, hR, hO, hb⟩ := hrel
            clear R3 O3 HB3
            have R4 := Lib.hid hR; have O4 := Lib.hid hO; have HB4 := Lib.hid hb
            clear hR hO hb
            obtain ⟨g, hg⟩ : ∃ g, g = passF (bubK 3 (ngF (cP f k)) m) j := ⟨_, rfl⟩
            rw [← hg] at O4
            have HF := Lib.hid (show passF (bubK 3 (ngF (cP f k)) m) (j + 1) = swapF g j by rw [hg]; rfl)
            have HK := Lib.hid hg
            clear hg
            by_cases hlj : j < 3
            · have d2 : decide ((j : Int) < 3) = true := by simp; omega
              obtain ⟨u, hu⟩ : ∃ u, u = - g j := ⟨_, rfl⟩
              obtain ⟨v, hv⟩ : ∃ v, v = - g (j + 1) := ⟨_, rfl⟩
              have c1 : wr.cell? ⟨w.heap.size + 1, j, none⟩ = some (.int .i64 u) := by rw [O4.out.cell (by omega), hu]; rfl
              have c2 : wr.cell? ⟨w.heap.size + 1, j + 1, none⟩ = some (.int .i64 v) := by rw [O4.out.cell (by omega), hv]; rfl
              have f1 : wr.frozen? ⟨w.heap.size + 1, j, none⟩ = false := O4.out.free _
              have f2 : wr.frozen? ⟨w.heap.size + 1, j + 1, none⟩ = false := O4.out.free _
              by_cases hc : u < v
              · have HS := Lib.hid (show upd (upd (ngF g) j v) (j + 1) u = ngF (swapF g j) by rw [hu, hv]; exact ng_upd2 g j (by omega))
                have d3 : decide (u < v) = true := by simp; omega
                clear hc hu hv
                go_wp2
                go_quiet (fail)
                go_wp2
                go_roundw
                case rel => exact ⟨j + 1, by omega, by go_num, ((R4.out.drewN _).other _ _ (ne01 _)).other _ _ (ne01 _), by rw [HF.out, ← HS.out, ← I_swap]; exact ((O4.out.drewN _).set (by omega) _).set (by omega) _, ((below_drewN HB4.out _).setCell (by simp) _).setCell (by simp) _⟩
                case measure => simp [intOf]; omega
              · have HS := Lib.hid (show swapF g j = g by unfold swapF; rw [if_neg (by omega)])
                have d3 : decide (u < v) = false := by simp; omega
                clear hc hu hv
                go_wp2
                go_quiet (fail)
                go_wp2
                go_roundw
                case rel => exact ⟨j + 1, by omega, by go_num, R4.out.drewN _, by rw [HF.out, HS.out]; exact O4.out.drewN _, below_drewN HB4.out _⟩
                case measure => simp [intOf]; omega
            · have d2 : decide ((j : Int) < 3) = false := by simp; omega
              obtain rfl : j = 3 := by omega
              rw [HK.out] at O4
              go_wp2
              go_roundw
              case rel => exact ⟨m + 1, by omega, by go_num, R4.out, O4.out, HB4.out⟩
              case measure => simp [intOf]; omega
        · have d1 : decide ((m : Int) < 4) = false := by simp; omega
          obtain rfl : m = 4 := by omega
          go_wp2_with (first | ((with_reducible apply wpList_load_blk); (case hw => rfl); (case ho => rfl); (case hx => rfl); (case hb => with_reducible exact O3.out); (case hu => exact Try.underlying29); (case hi => exact sz4)) | (refine wpList_store_blk rfl 29 _ _ rfl (R3.out) rfl rfl sz4 (fun _ _ => rfl) ?_) | fail)
          exact post_blk rfl (R3.out.setRow _) rfl Try.underlying29 sz4 rfl ⟨by rw [← HFF.out]; rfl, below_setRow HB3.out (by (focus (first | omega | (simp; done) | (simp; omega)))) _⟩
end Go.Proofs.Ytbfhfadfjgfmaaa
