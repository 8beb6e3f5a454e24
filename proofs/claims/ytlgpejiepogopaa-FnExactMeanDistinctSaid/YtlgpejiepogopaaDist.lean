/- Written by gen_dist.py. -/
import Derived.Test.YtlgpejiepogopaaKept
import Derived.Test.YtlgpejiepogopaaCompR
import Derived.Deep.RegionWith
import Derived.IntWalk
set_option linter.unusedVariables false
set_option linter.unusedSimpArgs false
set_option linter.unusedSectionVars false
namespace Go.Proofs.Ytlgpejiepogopaa
open Go.RowKit
def distI (n : Nat) (x : Nat → Nat → Int) (m : Nat) : Nat := runN (sortedF n x m) n
def allD (n : Nat) (x : Nat → Nat → Int) (m : Nat) : Nat → Int := fun _ => sumF (fun j => (distI n x j : Int)) m
theorem allD_bd (n : Nat) (x : Nat → Nat → Int) (hn : n ≤ 4) (m : Nat) : 0 ≤ sumF (fun j => (distI n x j : Int)) m ∧ sumF (fun j => (distI n x j : Int)) m ≤ 4 * m :=
  sumF_bd (f := fun j => (distI n x j : Int)) (m := 4) m (fun j _ => by have := runN_le (sortedF n x j) n; simp only [distI]; omega)
theorem compactK_any (rb n : Nat) (r : Nat → Int) (hn : n ≤ 12) (K : Nat) (hK : K ≠ rb) (t : Int) (w : World) (hA : Blk w rb n 3 (I r)) (hB : Blk w K 1 3 (I fun _ => t)) : Calls Try.prog 110 #[.slice (some ⟨rb, 0, none⟩) n n] w fun e w' => e = .returned (.slice (some ⟨rb, 0, none⟩) (runN r n) n) ∧ w.grownBy w' (some rb) ∧ w'.cell? ⟨K, 0, none⟩ = some (.int .i64 t) ∧ w'.frozen? ⟨K, 0, none⟩ = false :=
  (compact_any rb n r hn w hA).mono fun e w' h => ⟨h.1, h.2, (hB.grown h.2 (fun e => by injection e with e; exact hK e)).cell (by omega), (hB.grown h.2 (fun e => by injection e with e; exact hK e)).free _⟩
set_option maxHeartbeats 1000000 in
theorem distC_any (rb n : Nat) (r : Nat → Int) (hn : n ≤ 4) (t : Int) (ht : 0 ≤ t ∧ t ≤ 100000) (B : Nat) (hBr : B ≠ rb) (w : World) (hA : Blk w rb n 3 (I r)) (hB : Blk w B 1 3 (I fun _ => t)) :
    Calls Try.prog 109 #[.slice (some ⟨rb, 0, none⟩) n n, .pointer (some ⟨B, 0, none⟩)] w fun e w' => e = .returned (.tuple #[]) ∧ Blk w' B 1 3 (I fun _ => t + (runN r n : Nat)) ∧ ∃ w1, w.grownBy w1 (some rb) ∧ w1.grownBy w' (some B) := by
  have A0 := Lib.hid hA; have B0 := Lib.hid hB
  have c1 : w.cell? ⟨B, 0, none⟩ = some (.int .i64 t) := hB.cell (by omega)
  have hl := runN_le r n
  have g0 : Blk w B 1 3 (I fun _ => t) := hB
  clear hA hB g0
  obtain ⟨t1, t2⟩ := ht
  have hn12 := Lib.hid (show n ≤ 12 by omega)
  obtain ⟨s, hs⟩ : ∃ s, s = runN r n := ⟨_, rfl⟩
  have HS := Lib.hid hs
  rw [← hs] at hl
  rw [← hs]
  clear hs
  have HW := Lib.hid (show IntKind.i64.wrap (t + (s : Int)) = t + (s : Int) from IntWalk.i64_in _ (by omega))
  go_enter Try.func109, Try.ntmps109
  go_region_with (go_at_call 110; (first | (refine (compactK_any rb n r hn12.out B hBr t w.drew A0.out B0.out).mono ?_) | (refine (compactK_any rb n r hn12.out B hBr t w A0.out B0.out).mono ?_) | (refine (compactK_any rb n r hn12.out B hBr t w.drew.drew A0.out B0.out).mono ?_)); rintro e w1 ⟨rfl, hg, c2, f2⟩; rw [← HS.out]; have G := Lib.hid hg; clear hg)
  all_goals
    rw [HW.out]
    go_end0
    have A1 : Blk w1 B 1 3 (I fun _ => t) := B0.out.grown (w := w) (w' := w1) ⟨G.out.os, G.out.tape, G.out.output, G.out.size, G.out.block⟩ (fun e => by injection e with e; exact hBr e)
    exact ⟨rfl, (A1.set (by omega) _).ext (fun p hp => by obtain rfl : p = 0 := (by omega); simp [I, upd]), w1, ⟨G.out.os, G.out.tape, G.out.output, G.out.size, G.out.block⟩, grown_set (grown_refl _ _) _ _⟩
set_option maxHeartbeats 1000000 in
theorem rolls_dist (o : Option Addr) (n c : Nat) (x : Nat → Nat → Int) (g : poolB n x = true) (B : Nat)  (w : World) (h : PoolAt w o n x) (hP : ∀ a, o = some a → a.block < B) (hB : Blk w B 1 3 (I (allD n x 0))) :
    Calls Try.prog 108 #[poolV o n c, .func (.func 109) #[] #[.pointer (some ⟨B, 0, none⟩)]] w fun e w' => e = .returned (.tuple #[]) ∧ Blk w' B 1 3 (I (allD n x (sixN n))) ∧ w.grownBy w' (some B) := by
  have H := Lib.hid h; clear h
  obtain ⟨n1, n4⟩ := pool_le g
  have n8 : n ≤ 8 := by omega
  have s3 := sixN_small n4
  have HS := Lib.hid (pool_small g)
  have HPL := Lib.hid hP
  have BB := Lib.hid hB
  have BL := Lib.hid (hB.lt)
  clear g hP hB
  go_enter Try.func108, Try.ntmps108
  go_wp2_with fail
  go_at_call 97
  refine (power_any n n8 _).mono ?_
  rintro e w' ⟨rfl, rfl⟩
  go_wp2
  go_loopw [9] (fun i wr => ∃ m : Nat, m ≤ sixN n ∧ i = .int .i64 (m : Int) ∧ Blk wr B 1 3 (I (allD n x m)) ∧ w.grownBy wr (some B)) (fun i _ => 1300 - (intOf i).toNat)
  case atStart => exact ⟨0, by omega, rfl, BB.out, grown_refl _ _⟩
  case round =>
    obtain ⟨m, hm, rfl, hR, hG⟩ := hrel
    have R1 := Lib.hid hR; have G1 := Lib.hid hG
    clear hR hG BB
    by_cases hlt : m < sixN n
    · have d0 : decide (m < sixN n) = true := by simp; omega
      obtain ⟨wo, rfl⟩ : ∃ wo : World, wo = wr := ⟨_, rfl⟩
      go_wp2_with fail
      go_at_call 104
      refine (rollAt_any o n c x m n1 n4 (by omega) _ (pool_grown H.out HPL.out G1.out)).mono ?_
      rintro e w1 ⟨rfl, hA, hb⟩
      have A1 := Lib.hid hA; have HB1 := Lib.hid hb
      clear hA hb
      go_wp2_with fail
      go_at_call 152
      refine (sortFunc_any wo.heap.size n (rollF n x m) (by omega) (fun j hj => by have := rollF_bd HS.out m j hj; omega) _ A1.out).mono ?_
      rintro e w2 ⟨rfl, hA, hg2⟩
      have A2 := Lib.hid hA; have G2 := Lib.hid hg2
      clear hA hg2
      have R2 := Lib.hid (show Blk w2 B 1 3 (I (allD n x m)) from Blk.grown (R1.out.below HB1.out R1.out.lt) G2.out (fun e => by injection e with e; have := R1.out.lt; omega))
      have G3 := Lib.hid (show w.grownBy w2 (some B) from grown_trans (grown_trans G1.out (grown_none HB1.out none) (fun k e => by cases e)) G2.out (fun k e => .inr (by injection e with e; have := G1.out.size; omega)))
      go_wp2_with fail
      go_at_call 109
      refine (distC_any wo.heap.size n (sortedF n x m) n4 (sumF (fun j => (distI n x j : Int)) m) (by have := allD_bd n x n4 m; omega) B (by have := R1.out.lt; omega) _ A2.out R2.out).mono ?_
      rintro e w3 ⟨rfl, hR3, w25, hg25, hg3⟩
      have R3 := Lib.hid hR3; have G4 := Lib.hid hg3; have G35 := Lib.hid (grown_trans G3.out hg25 (fun k e => .inr (by injection e with e; have := G1.out.size; omega)))
      clear hg25
      clear hR3 hg3
      go_wp2
      go_roundw
      case rel => exact ⟨m + 1, by omega, by go_num, R3.out, grown_trans G35.out G4.out (fun k e => .inl e.symm)⟩
      case measure => simp [intOf]; omega
    · have HE := Lib.hid (show m = sixN n by omega)
      have d0 : decide (m < sixN n) = false := by simp; omega
      go_wp2
      go_end0
      exact ⟨rfl, by rw [← HE.out]; exact R1.out, G1.out⟩
end Go.Proofs.Ytlgpejiepogopaa
