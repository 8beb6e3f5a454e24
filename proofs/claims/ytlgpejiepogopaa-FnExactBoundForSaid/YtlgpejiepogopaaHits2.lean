/- Written by gen_hits.py. -/
import Derived.Test.YtlgpejiepogopaaHits
import Derived.Test.YtlgpejiepogopaaKept
set_option linter.unusedVariables false
set_option linter.unusedSimpArgs false
set_option linter.unusedSectionVars false
namespace Go.Proofs.Ytlgpejiepogopaa
open Go.RowKit
set_option maxHeartbeats 1000000 in
theorem hitsC_any (rb n : Nat) (r f : Nat → Int) (hn : n ≤ 4) (z : Int) (s : Nat) (hs : hc r z n = s) (hf : ∀ i, 0 ≤ f i ∧ f i ≤ 100000) (B K : Nat) (w : World) (hA : Blk w rb n 3 (I r)) (hB : Blk w B 5 30 (I f)) (hK : w.cell? ⟨K, 0, none⟩ = some (.int .i64 z)) :
    Calls Try.prog 140 #[.slice (some ⟨rb, 0, none⟩) n n, .pointer (some ⟨K, 0, none⟩), .pointer (some ⟨B, 0, none⟩)] w fun e w' => e = .returned (.tuple #[]) ∧ Blk w' B 5 30 (I (upd f s (f s + 1))) ∧ w.grownBy w' (some B) := by
  have A0 := Lib.hid hA; have B0 := Lib.hid hB; have HK := Lib.hid hK
  have s4 : s ≤ 4 := by have := hc_le r z n; omega
  have c1 : w.cell? ⟨B, s, none⟩ = some (.int .i64 (f s)) := hB.cell (by omega)
  have f1 : w.frozen? ⟨B, s, none⟩ = false := hB.free _
  obtain ⟨q1, q2⟩ := hf s
  have C1 := Lib.hid c1; have F1 := Lib.hid f1
  have HS := Lib.hid hs
  clear hA hB hs hK c1 f1
  go_enter Try.func140, Try.ntmps140
  go_wp2
  go_loopw [4, 9] (fun m i wr => ∃ j : Nat, j ≤ n ∧ i = .int .i64 (j : Int) ∧ m = .int .i64 ((hc r z j : Nat) : Int) ∧ w = wr) (fun m i _ => n - (intOf i).toNat)
  case atStart => exact ⟨0, by omega, rfl, rfl, rfl⟩
  case round =>
    obtain ⟨j, hj, rfl, rfl, rfl⟩ := hrel
    have hl := hc_le r z j
    by_cases hlt : j < n
    · have d0 : decide ((j : Int) < (n : Int)) = true := by simp; omega
      have c2 : w.cell? ⟨rb, j, none⟩ = some (.int .i64 (r j)) := A0.out.cell hlt
      have hK := HK.out
      obtain ⟨u, hu⟩ : ∃ u, u = hc r z j := ⟨_, rfl⟩
      rw [← hu] at hl
      rw [← hu]
      by_cases hq : z ≤ r j
      · have HN := Lib.hid (show hc r z (j + 1) = u + 1 by simp only [hc]; rw [if_pos hq, hu])
        clear hu
        have d1 : decide (z ≤ r j) = true := by simp; omega
        go_wp2
        go_roundw
        case rel => exact ⟨j + 1, by omega, by go_num, by rw [HN.out]; go_num, trivial⟩
        case measure => simp [intOf]; omega
      · have HN := Lib.hid (show hc r z (j + 1) = u by simp only [hc]; rw [if_neg hq, hu]; rfl)
        clear hu
        have d1 : decide (z ≤ r j) = false := by simp; omega
        go_wp2
        go_roundw
        case rel => exact ⟨j + 1, by omega, by go_num, by rw [HN.out], trivial⟩
        case measure => simp [intOf]; omega
    · have d0 : decide ((j : Int) < (n : Int)) = false := by simp; omega
      obtain rfl : j = n := by omega
      rw [HS.out]
      have c1 := C1.out
      have f1 := F1.out
      go_wp2
      go_end0
      exact ⟨rfl, by rw [← I_upd]; exact B0.out.set (by omega) _, grown_set (grown_refl _ _) _ _⟩
set_option maxHeartbeats 1000000 in
theorem rolls_hits (o : Option Addr) (n c : Nat) (x : Nat → Nat → Int) (g : poolB n x = true) (B : Nat) (K : Nat) (z : Int) (hKB : K ≠ B) (w : World) (h : PoolAt w o n x) (hP : ∀ a, o = some a → a.block < B) (hB : Blk w B 5 30 (I (cntF (hitI n x z) 0))) (hK : w.cell? ⟨K, 0, none⟩ = some (.int .i64 z)) :
    Calls Try.prog 108 #[poolV o n c, .func (.func 140) #[] #[.pointer (some ⟨K, 0, none⟩), .pointer (some ⟨B, 0, none⟩)]] w fun e w' => e = .returned (.tuple #[]) ∧ Blk w' B 5 30 (I (cntF (hitI n x z) (sixN n))) ∧ w.grownBy w' (some B) := by
  have H := Lib.hid h; clear h
  obtain ⟨n1, n4⟩ := pool_le g
  have n8 : n ≤ 8 := by omega
  have s3 := sixN_small n4
  have HS := Lib.hid (pool_small g)
  have HPL := Lib.hid hP
  have BB := Lib.hid hB
  have BL := Lib.hid (hB.lt)
  have HK := Lib.hid hK; clear hK
  clear g hP hB
  go_enter Try.func108, Try.ntmps108
  go_wp2_with fail
  go_at_call 97
  refine (power_any n n8 _).mono ?_
  rintro e w' ⟨rfl, rfl⟩
  go_wp2
  go_loopw [9] (fun i wr => ∃ m : Nat, m ≤ sixN n ∧ i = .int .i64 (m : Int) ∧ Blk wr B 5 30 (I (cntF (hitI n x z) m)) ∧ w.grownBy wr (some B)) (fun i _ => 1300 - (intOf i).toNat)
  case atStart => exact ⟨0, by omega, rfl, BB.out, grown_refl _ _⟩
  case round =>
    obtain ⟨m, hm, rfl, hR, hG⟩ := hrel
    have R1 := Lib.hid hR; have G1 := Lib.hid hG
    clear hR hG BB
    by_cases hlt : m < sixN n
    · have d0 : decide (m < sixN n) = true := by simp; omega
      obtain ⟨wo, rfl⟩ : ∃ wo : World, wo = wr := ⟨_, rfl⟩
      go_wp2_with fail
      go_at_call 104
      refine (rollAt_any o n c x m n1 n4 (by omega) _ (pool_grown H.out HPL.out G1.out)).mono ?_
      rintro e w1 ⟨rfl, hA, hb⟩
      have A1 := Lib.hid hA; have HB1 := Lib.hid hb
      clear hA hb
      go_wp2_with fail
      go_at_call 152
      refine (sortFunc_any wo.heap.size n (rollF n x m) (by omega) (fun j hj => by have := rollF_bd HS.out m j hj; omega) _ A1.out).mono ?_
      rintro e w2 ⟨rfl, hA, hg2⟩
      have A2 := Lib.hid hA; have G2 := Lib.hid hg2
      clear hA hg2
      have R2 := Lib.hid (show Blk w2 B 5 30 (I (cntF (hitI n x z) m)) from Blk.grown (R1.out.below HB1.out R1.out.lt) G2.out (fun e => by injection e with e; have := R1.out.lt; omega))
      have G3 := Lib.hid (show w.grownBy w2 (some B) from grown_trans (grown_trans G1.out (grown_none HB1.out none) (fun k e => by cases e)) G2.out (fun k e => .inr (by injection e with e; have := G1.out.size; omega)))
      go_wp2_with fail
      go_at_call 140
      refine (hitsC_any wo.heap.size n (sortedF n x m) (cntF (hitI n x z) m) n4 z (hitI n x z m) (hitI_sorted n x z m) (fun i => by have := cntF_bd (hitI n x z) m i; omega) B K _ A2.out R2.out (World.grownBy.cell G3.out HK.out (fun e => by injection e with e; exact hKB e))).mono ?_
      rintro e w3 ⟨rfl, hR3, hg3⟩
      have R3 := Lib.hid hR3; have G4 := Lib.hid hg3
      clear hR3 hg3
      go_wp2
      go_roundw
      case rel => exact ⟨m + 1, by omega, by go_num, R3.out, grown_trans G3.out G4.out (fun k e => .inl e.symm)⟩
      case measure => simp [intOf]; omega
    · have HE := Lib.hid (show m = sixN n by omega)
      have d0 : decide (m < sixN n) = false := by simp; omega
      go_wp2
      go_end0
      exact ⟨rfl, by rw [← HE.out]; exact R1.out, G1.out⟩
set_option maxHeartbeats 1000000 in
theorem hits_any (o : Option Addr) (n c : Nat) (x : Nat → Nat → Int) (g : poolB n x = true) (z : Int)  (w : World) (h : PoolAt w o n x) : Calls Try.prog 80 #[poolV o n c, .int .i64 z] w fun e w' => e = .returned (.agg (row 5 (I (hitsF x z n)))) ∧ Below w.heap.size w w' := by
  have H := Lib.hid h; clear h
  have G := Lib.hid g
  have HPL := Lib.hid (pool_lt H.out (pool_le g).1)
  clear g
  rw [← hits_fun]
  go_enter Try.func80, Try.ntmps80
  go_wp2_with (first | (refine wpList_alloc_blk rfl 30 rfl zero5 ?_) | fail)
  generalize hW : ((w.alloc (.cells #[.int .i64 z] 3)).alloc (.cells (row 5 (I fun _ => 0)) 30)).alloc (.cells (row 5 (I fun _ => 0)) 30) = W0
  have K0 := Lib.hid (show W0.cell? ⟨w.heap.size, 0, none⟩ = some (.int .i64 z) by
    subst hW
    have : ((w.alloc (.cells #[.int .i64 z] 3))).cell? ⟨w.heap.size, 0, none⟩ = some (.int .i64 z) := by simp
    rw [Below.cell ((Below.refl _ _).alloc (Nat.le_refl _) _) (by (first | (simp; done) | (simp; omega))), Below.cell ((Below.refl _ _).alloc (Nat.le_refl _) _) (by (first | (simp; done) | (simp; omega)))]
    exact this)
  have R0 := Lib.hid (show Blk W0 (w.heap.size + 1) 5 30 (I fun _ => 0) from hW ▸ (Blk.newS (by simp)).alloc _)
  have B0 := Lib.hid (show Blk W0 (w.heap.size + 1 + 1) 5 30 (I fun _ => 0) from hW ▸ Blk.newS (by simp))
  have HB0 := Lib.hid (show Below w.heap.size w W0 from hW ▸ (((Below.refl _ _).alloc (Nat.le_refl _) _).alloc (by simp) _).alloc (by simp; omega) _)
  have H0 := Lib.hid (H.out.below HB0.out)
  clear hW
  go_at_call 108
  refine (rolls_hits o n c x G.out (w.heap.size + 1 + 1) w.heap.size z (by omega) _ H0.out (fun a ha => by have := HPL.out a ha; omega) B0.out K0.out).mono ?_
  rintro e w1 ⟨rfl, hB1, hg1⟩
  have B1 := Lib.hid hB1
  have R1 := Lib.hid (R0.out.grown hg1 (fun e => by injection e with e; omega))
  have HB1 := Lib.hid (below_grown HB0.out hg1 (fun g e => by injection e with e; omega) HB0.out.size)
  clear hB1 hg1
  go_wp2_with (first | ((with_reducible apply wpList_load_blk); (case hw => rfl); (case ho => rfl); (case hx => rfl); (case hb => with_reducible exact B1.out); (case hu => exact Try.underlying30); (case hi => exact sz5)) | (refine wpList_store_blk rfl 30 _ _ rfl (R1.out) rfl rfl sz5 (fun _ _ => rfl) ?_) | fail)
  exact post_blk rfl (R1.out.setRow _) rfl Try.underlying30 sz5 rfl ⟨rfl, below_setRow HB1.out (by (focus (first | omega | (simp; done) | (simp; omega)))) _⟩
end Go.Proofs.Ytlgpejiepogopaa
