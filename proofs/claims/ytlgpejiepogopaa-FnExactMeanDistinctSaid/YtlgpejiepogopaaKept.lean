/- The program's kept and the reference's l4Kept. -/
import Derived.Test.YtlgpejiepogopaaCnt
import Derived.Test.YtlgpejiepogopaaSort4
import Derived.Test.YtlgpejiepogopaaPlaces2
set_option linter.unusedVariables false
set_option linter.unusedSimpArgs false
set_option linter.unusedSectionVars false
namespace Go.Proofs.Ytlgpejiepogopaa
open Go.RowKit
theorem grown_trans {w w1 w2 : World} {r r2 : Option Nat} (h1 : w.grownBy w1 r) (h2 : w1.grownBy w2 r2) (hr : ∀ k, r2 = some k → some k = r ∨ w.heap.size ≤ k) : w.grownBy w2 r :=
  ⟨h2.os.trans h1.os, h2.tape.trans h1.tape, h2.output.trans h1.output, Nat.le_trans h1.size h2.size, fun k hk hne => by
    rw [h2.block k (Nat.lt_of_lt_of_le hk h1.size) (fun e => by
      rcases hr k e.symm with q | q
      · exact hne q
      · omega)]
    exact h1.block k hk hne⟩
theorem pool_grown {w w' : World} {o : Option Addr} {n B : Nat} {x : Nat → Nat → Int} (h : PoolAt w o n x) (hP : ∀ a, o = some a → a.block < B) (hg : w.grownBy w' (some B)) : PoolAt w' o n x :=
  h.grown hg (fun a ha e => by injection e with e; have := hP a ha; omega)
theorem pool_lt {w : World} {o : Option Addr} {n : Nat} {x : Nat → Nat → Int} (h : PoolAt w o n x) (hn : 1 ≤ n) : ∀ a, o = some a → a.block < w.heap.size := fun a ha => by
  obtain ⟨a2, h1, h2, _⟩ := h 0 (by omega)
  rw [ha] at h1
  injection h1 with h1
  subst h1
  exact h2
set_option maxHeartbeats 1000000 in
theorem keptC_any (rb n : Nat) (r f : Nat → Int) (hn : n ≤ 12) (k : Nat) (hk : k ≤ n) (s : Nat) (hs : sumF r k = (s : Int)) (h120 : s ≤ 120) (hr : ∀ p, p < n → 0 ≤ r p ∧ r p ≤ 30) (hf : ∀ i, 0 ≤ f i ∧ f i ≤ 100000) (B K : Nat) (w : World) (hA : Blk w rb n 3 (I r)) (hB : Blk w B 121 41 (I f)) (hK : w.cell? ⟨K, 0, none⟩ = some (.int .i64 (k : Int))) :
    Calls Try.prog 143 #[.slice (some ⟨rb, 0, none⟩) n n, .pointer (some ⟨B, 0, none⟩), .pointer (some ⟨K, 0, none⟩)] w fun e w' => e = .returned (.tuple #[]) ∧ Blk w' B 121 41 (I (upd f s (f s + 1))) ∧ w.grownBy w' (some B) := by
  have A0 := Lib.hid hA; have B0 := Lib.hid hB
  have c1 : w.cell? ⟨B, s, none⟩ = some (.int .i64 (f s)) := hB.cell (by omega)
  have f1 : w.frozen? ⟨B, s, none⟩ = false := hB.free _
  obtain ⟨q1, q2⟩ := hf s
  have HS := Lib.hid hs
  have HR := Lib.hid (fun p (hp : p < k) => hr p (by omega))
  have hsl := Lib.hid (slice_to rb n n k hk)
  clear hA hB hr hs
  go_enter Try.func143, Try.ntmps143
  go_wp2_with (first | (((with_reducible apply wpList_slice_hi); (case hw => rfl); (case ho => rfl); (case hx => rfl); (case hy => rfl); (case hr => exact hsl.out))) | fail)
  go_at_call 144
  refine (total_at ⟨rb, 0, none⟩ k n r 30 (by omega) (by omega) HR.out _ (fun j hj => by rw [addr_add, Nat.zero_add]; exact A0.out.cell (by omega))).mono ?_
  rintro e w' ⟨rfl, rfl⟩
  rw [HS.out]
  go_wp2
  go_end0
  exact ⟨rfl, by rw [← I_upd]; exact B0.out.set (by omega) _, grown_set (grown_refl _ _) _ _⟩
set_option maxHeartbeats 1000000 in
theorem rolls_kept (o : Option Addr) (n c : Nat) (x : Nat → Nat → Int) (g : poolB n x = true) (B : Nat) (K k : Nat) (hk : k ≤ n) (hKB : K ≠ B) (w : World) (h : PoolAt w o n x) (hP : ∀ a, o = some a → a.block < B) (hB : Blk w B 121 41 (I (cntF (keptI n x k) 0))) (hK : w.cell? ⟨K, 0, none⟩ = some (.int .i64 (k : Int))) :
    Calls Try.prog 108 #[poolV o n c, .func (.func 143) #[] #[.pointer (some ⟨B, 0, none⟩), .pointer (some ⟨K, 0, none⟩)]] w fun e w' => e = .returned (.tuple #[]) ∧ Blk w' B 121 41 (I (cntF (keptI n x k) (sixN n))) ∧ w.grownBy w' (some B) := by
  have H := Lib.hid h; clear h
  obtain ⟨n1, n4⟩ := pool_le g
  have n8 : n ≤ 8 := by omega
  have s3 := sixN_small n4
  have HS := Lib.hid (pool_small g)
  have HPL := Lib.hid hP
  have BB := Lib.hid hB
  have BL := Lib.hid (hB.lt)
  have HK := Lib.hid hK; clear hK
  clear g hP hB
  go_enter Try.func108, Try.ntmps108
  go_wp2_with fail
  go_at_call 97
  refine (power_any n n8 _).mono ?_
  rintro e w' ⟨rfl, rfl⟩
  go_wp2
  go_loopw [9] (fun i wr => ∃ m : Nat, m ≤ sixN n ∧ i = .int .i64 (m : Int) ∧ Blk wr B 121 41 (I (cntF (keptI n x k) m)) ∧ w.grownBy wr (some B)) (fun i _ => 1300 - (intOf i).toNat)
  case atStart => exact ⟨0, by omega, rfl, BB.out, grown_refl _ _⟩
  case round =>
    obtain ⟨m, hm, rfl, hR, hG⟩ := hrel
    have R1 := Lib.hid hR; have G1 := Lib.hid hG
    clear hR hG BB
    by_cases hlt : m < sixN n
    · have d0 : decide (m < sixN n) = true := by simp; omega
      obtain ⟨wo, rfl⟩ : ∃ wo : World, wo = wr := ⟨_, rfl⟩
      go_wp2_with fail
      go_at_call 104
      refine (rollAt_any o n c x m n1 n4 (by omega) _ (pool_grown H.out HPL.out G1.out)).mono ?_
      rintro e w1 ⟨rfl, hA, hb⟩
      have A1 := Lib.hid hA; have HB1 := Lib.hid hb
      clear hA hb
      go_wp2_with fail
      go_at_call 152
      refine (sortFunc_any wo.heap.size n (rollF n x m) (by omega) (fun j hj => by have := rollF_bd HS.out m j hj; omega) _ A1.out).mono ?_
      rintro e w2 ⟨rfl, hA, hg2⟩
      have A2 := Lib.hid hA; have G2 := Lib.hid hg2
      clear hA hg2
      have R2 := Lib.hid (show Blk w2 B 121 41 (I (cntF (keptI n x k) m)) from Blk.grown (R1.out.below HB1.out R1.out.lt) G2.out (fun e => by injection e with e; have := R1.out.lt; omega))
      have G3 := Lib.hid (show w.grownBy w2 (some B) from grown_trans (grown_trans G1.out (grown_none HB1.out none) (fun k e => by cases e)) G2.out (fun k e => .inr (by injection e with e; have := G1.out.size; omega)))
      go_wp2_with fail
      go_at_call 143
      refine (keptC_any wo.heap.size n (sortedF n x m) (cntF (keptI n x k) m) (by omega) k hk (keptI n x k m) (keptI_eq HS.out n4 hk m).1 (keptI_eq HS.out n4 hk m).2 (sortedF_bd HS.out m) (fun i => by have := cntF_bd (keptI n x k) m i; omega) B K _ A2.out R2.out (World.grownBy.cell G3.out HK.out (fun e => by injection e with e; exact hKB e))).mono ?_
      rintro e w3 ⟨rfl, hR3, hg3⟩
      have R3 := Lib.hid hR3; have G4 := Lib.hid hg3
      clear hR3 hg3
      go_wp2
      go_roundw
      case rel => exact ⟨m + 1, by omega, by go_num, R3.out, grown_trans G3.out G4.out (fun k e => .inl e.symm)⟩
      case measure => simp [intOf]; omega
    · have HE := Lib.hid (show m = sixN n by omega)
      have d0 : decide (m < sixN n) = false := by simp; omega
      go_wp2
      go_end0
      exact ⟨rfl, by rw [← HE.out]; exact R1.out, G1.out⟩
set_option maxHeartbeats 1000000 in
theorem kept_any (o : Option Addr) (n c : Nat) (x : Nat → Nat → Int) (g : poolB n x = true) (k : Nat) (hk : k ≤ n) (w : World) (h : PoolAt w o n x) : Calls Try.prog 88 #[poolV o n c, .int .i64 (k : Int)] w fun e w' => e = .returned (.agg (row 121 (I (cntF (keptI n x k) (sixN n))))) ∧ Below w.heap.size w w' := by
  have H := Lib.hid h; clear h
  have G := Lib.hid g
  have HPL := Lib.hid (pool_lt H.out (pool_le g).1)
  clear g
  go_enter Try.func88, Try.ntmps88
  go_wp2_with (first | (refine wpList_alloc_blk rfl 41 rfl zero121 ?_) | fail)
  generalize hW : ((w.alloc (.cells #[.int .i64 (k : Int)] 3)).alloc (.cells (row 121 (I fun _ => 0)) 41)).alloc (.cells (row 121 (I fun _ => 0)) 41) = W0
  have K0 := Lib.hid (show W0.cell? ⟨w.heap.size, 0, none⟩ = some (.int .i64 (k : Int)) by
    subst hW
    have : ((w.alloc (.cells #[.int .i64 (k : Int)] 3))).cell? ⟨w.heap.size, 0, none⟩ = some (.int .i64 (k : Int)) := by simp
    rw [Below.cell ((Below.refl _ _).alloc (Nat.le_refl _) _) (by (first | (simp; done) | (simp; omega))), Below.cell ((Below.refl _ _).alloc (Nat.le_refl _) _) (by (first | (simp; done) | (simp; omega)))]
    exact this)
  have R0 := Lib.hid (show Blk W0 (w.heap.size + 1) 121 41 (I fun _ => 0) from hW ▸ (Blk.newS (by simp)).alloc _)
  have B0 := Lib.hid (show Blk W0 (w.heap.size + 1 + 1) 121 41 (I fun _ => 0) from hW ▸ Blk.newS (by simp))
  have HB0 := Lib.hid (show Below w.heap.size w W0 from hW ▸ (((Below.refl _ _).alloc (Nat.le_refl _) _).alloc (by simp) _).alloc (by simp; omega) _)
  have H0 := Lib.hid (H.out.below HB0.out)
  clear hW
  go_at_call 108
  refine (rolls_kept o n c x G.out (w.heap.size + 1 + 1) w.heap.size k hk (by omega) _ H0.out (fun a ha => by have := HPL.out a ha; omega) B0.out K0.out).mono ?_
  rintro e w1 ⟨rfl, hB1, hg1⟩
  have B1 := Lib.hid hB1
  have R1 := Lib.hid (R0.out.grown hg1 (fun e => by injection e with e; omega))
  have HB1 := Lib.hid (below_grown HB0.out hg1 (fun g e => by injection e with e; omega) HB0.out.size)
  clear hB1 hg1
  go_wp2_with (first | ((with_reducible apply wpList_load_blk); (case hw => rfl); (case ho => rfl); (case hx => rfl); (case hb => with_reducible exact B1.out); (case hu => exact Try.underlying41); (case hi => exact sz121)) | (refine wpList_store_blk rfl 41 _ _ rfl (R1.out) rfl rfl sz121 (fun _ _ => rfl) ?_) | fail)
  exact post_blk rfl (R1.out.setRow _) rfl Try.underlying41 sz121 rfl ⟨rfl, below_setRow HB1.out (by (focus (first | omega | (simp; done) | (simp; omega)))) _⟩
set_option maxHeartbeats 1000000 in
theorem l4Kept_any (o : Option Addr) (n c : Nat) (x : Nat → Nat → Int) (hn : n ≤ 1048576) (g : poolB n x = true) (k : Nat) (hk : k ≤ n) (w : World) (h : PoolAt w o n x) : Calls Try.prog 86 #[poolV o n c, .int .i64 (k : Int)] w fun e w' => e = .returned (.agg (row 121 (I (cntF (keptI n x k) (sixN n))))) ∧ Below w.heap.size w w' := by
  have H := Lib.hid h; clear h
  obtain ⟨n1, n4⟩ := pool_le g
  have n8 : n ≤ 8 := by omega
  have s3 := sixN_small n4
  have HS := Lib.hid (pool_small g)
  clear g
  go_enter Try.func86, Try.ntmps86
  go_wp2_with (first | (refine wpList_alloc_blk rfl 41 rfl zero121 ?_) | (refine wpList_build0_blk rfl 41 rfl built121 ?_) | (((with_reducible apply wpList_store_new); (case hw => rfl); (case ho => rfl); (case hx => rfl); (case hy => rfl); (case hg => rfl); (case hi => exact sz121); (case h1 => exact fun _ _ => rfl))) | fail)
  go_loopw [6] (fun i wr => ∃ m : Nat, m ≤ sixN n ∧ i = .int .i64 (m : Int) ∧ Blk wr w.heap.size 121 41 (I fun _ => 0) ∧ Blk wr (w.heap.size + 1) 121 41 (I (cntF (keptI n x k) m)) ∧ Below w.heap.size w wr) (fun i _ => 1300 - (intOf i).toNat)
  case atStart => exact ⟨0, by omega, rfl, (Blk.new _ _ _ _).alloc _, Blk.newS (by simp), ((Below.refl _ _).alloc (by omega) _).alloc (by simp) _⟩
  case round =>
    obtain ⟨m, hm, rfl, hR, hO, hb⟩ := hrel
    have R1 := Lib.hid hR; have O1 := Lib.hid hO; have HB1 := Lib.hid hb
    clear hR hO hb
    by_cases hlt : m < sixN n
    · have d0 : decide (m < sixN n) = true := by simp; omega
      obtain ⟨wo, rfl⟩ : ∃ wo : World, wo = wr := ⟨_, rfl⟩
      go_wp2_with fail
      go_at_call 105
      refine (l2All_any n n8 _).mono ?_
      rintro e w' ⟨rfl, rfl⟩
      go_wp2_with fail
      go_at_call 106
      refine (l2Roll_any o n c x m n1 n4 (by omega) _ (H.out.below HB1.out)).mono ?_
      rintro e w1 ⟨rfl, hA, hb⟩
      have A1 := Lib.hid hA; have R2 := Lib.hid (R1.out.below hb R1.out.lt); have O2 := Lib.hid (O1.out.below hb O1.out.lt); have HB2 := Lib.hid (HB1.out.trans (hb.mono HB1.out.size))
      clear hA hb
      go_wp2_with fail
      go_at_call 141
      refine (l4Places_any wo.heap.size n (rollF n x m) (by omega) _ A1.out).mono ?_
      rintro e w2 ⟨gp, cp, rfl, hI, hb⟩
      have I2 := Lib.hid hI; have R3 := Lib.hid (R2.out.below hb R2.out.lt); have O3 := Lib.hid (O2.out.below hb O2.out.lt); have HB3 := Lib.hid (HB2.out.trans (hb.mono HB2.out.size))
      clear hI hb
      obtain ⟨q3, q4⟩ := keptI_eq HS.out n4 hk m
      have HQ := Lib.hid q3
      clear q3
      go_wp2
      go_loopw [8, 9] (fun a i wr => ∃ j : Nat, j ≤ k ∧ i = .int .i64 (j : Int) ∧ a = .int .i64 (sumF (sortedF n x m) j) ∧ w2 = wr) (fun a i _ => k - (intOf i).toNat)
      case atStart => exact ⟨0, by omega, rfl, rfl, rfl⟩
      case round =>
        obtain ⟨j, hj, rfl, rfl, rfl⟩ := hrel
        obtain ⟨e1, e2⟩ := sumF_bd (f := sortedF n x m) (m := 30) j (fun q hq => sortedF_bd HS.out m q (by omega))
        by_cases hlj : j < k
        · have d1 : decide (j < k) = true := by simp; omega
          obtain ⟨g2, e0, _, _, c1⟩ := I2.out.cell (k := j) (by omega)
          obtain rfl : gp = g2 := by injection e0 with e0; injection e0
          clear e0
          have c2 : w2.cell? ⟨gp, j, none⟩ = some (.int .i64 (sortedF n x m j)) := c1
          clear c1
          obtain ⟨e3, e4⟩ := sortedF_bd HS.out m j (by omega)
          go_wp2
          go_roundw
          case rel => exact ⟨j + 1, by omega, by go_num, rfl, trivial⟩
          case measure => simp [intOf]; omega
        · obtain rfl : j = k := by omega
          have d1 : decide (j < j) = false := by simp
          rw [HQ.out]
          obtain ⟨s, hs⟩ : ∃ s, s = keptI n x j m := ⟨_, rfl⟩
          have s120 : s ≤ 120 := by rw [hs]; exact q4
          have HS2 := Lib.hid hs
          rw [← hs]
          clear hs q4
          have c1 : w2.cell? ⟨w.heap.size + 1, s, none⟩ = some (.int .i64 (cntF (keptI n x j) m s)) := O3.out.cell (by omega)
          have f1 : w2.frozen? ⟨w.heap.size + 1, s, none⟩ = false := O3.out.free _
          obtain ⟨e5, e6⟩ := cntF_bd (keptI n x j) m s
          go_wp2
          go_roundw
          case rel => exact ⟨m + 1, by omega, by go_num, R3.out.other _ _ (ne01 _), by show Blk _ _ _ _ (I (upd (cntF (keptI n x j) m) (keptI n x j m) (cntF (keptI n x j) m (keptI n x j m) + 1))); rw [← HS2.out, ← I_upd]; exact O3.out.set (by omega) _, HB3.out.setCell (by simp) _⟩
          case measure => simp [intOf]; omega
    · have HE := Lib.hid (show m = sixN n by omega)
      have d0 : decide (m < sixN n) = false := by simp; omega
      go_wp2_with fail
      go_at_call 105
      refine (l2All_any n n8 _).mono ?_
      rintro e w' ⟨rfl, rfl⟩
      go_wp2_with (first | ((with_reducible apply wpList_load_blk); (case hw => rfl); (case ho => rfl); (case hx => rfl); (case hb => with_reducible exact O1.out); (case hu => exact Try.underlying41); (case hi => exact sz121)) | (refine wpList_store_blk rfl 41 _ _ rfl (R1.out) rfl rfl sz121 (fun _ _ => rfl) ?_) | fail)
      exact post_blk rfl (R1.out.setRow _) rfl Try.underlying41 sz121 rfl ⟨by rw [HE.out], below_setRow HB1.out (by (focus (first | omega | (simp; done) | (simp; omega)))) _⟩
end Go.Proofs.Ytlgpejiepogopaa
