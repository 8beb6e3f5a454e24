/- JoinStrings, the program's side. -/
import Derived.Test.YthjfnfhadgmglaaJoinT
set_option linter.unusedVariables false
set_option linter.unusedSimpArgs false
set_option linter.unusedSectionVars false
namespace Go.Proofs.Ythjfnfhadgmglaa
open Go.RowKit
set_option maxRecDepth 100000 in
set_option maxHeartbeats 2000000 in
theorem iJoin_any (b n : Nat) (x : Nat → ByteArray) (sep : ByteArray) (hn : n + szs x n ≤ 1048576) (w : World) (h : TxtBlk w b n x) : Calls Try.prog 14 #[.slice (some ⟨b, 0, none⟩) n n, .string sep] w fun e w' => e = .returned (.tuple #[.string (joinV n x sep), .bool (joinB n x sep)]) ∧ Below w.heap.size w w' := by
  have H := Lib.hid h; clear h
  by_cases h2 : 0 < n
  · have d0 : ((n : Int) == 0) = false := by simp; omega
    by_cases h1 : sep.size = 1
    · obtain ⟨c, rfl⟩ := Lib.one_byte sep h1
      have hnn : n ≤ 1048576 := by omega
      have HNN := Lib.hid hn
      clear h1 hn
      cases ha : allB (fun i => !hasC c (x i)) n
      · have HA := Lib.hid ha
        have G := Lib.hid (show joinB n x ⟨#[c]⟩ = false by
          unfold joinB
          rw [show allB (fun i => !hasC ((⟨#[c]⟩ : ByteArray).data.getD 0 0) (x i)) n = false from ha]
          simp)
        have HV := Lib.hid (show joinV n x ⟨#[c]⟩ = ⟨#[]⟩ by unfold joinV; rw [G.out]; rfl)
        clear ha
        go_enter Try.func14, Try.ntmps14
        go_wp2_with fail
        go_at_call 19
        refine (areFree_any b n w.heap.size c x hnn _ (H.out.alloc _) (by simp)).mono ?_
        rintro e w1 ⟨rfl, hb1⟩
        have HB1 := Lib.hid (((Below.refl w.heap.size w).alloc (Nat.le_refl _) _).trans (hb1.mono (by simp)))
        clear hb1
        rw [HA.out]
        go_wp2
        go_ret2
        exact ⟨by rw [HV.out, G.out]; rfl, HB1.out⟩
      · have HA := Lib.hid ha
        have HG : ∀ z, decide (szs x n + (n - 1) ≤ 4000) = z → joinB n x ⟨#[c]⟩ = z := fun z hz => by
          unfold joinB
          rw [show allB (fun i => !hasC ((⟨#[c]⟩ : ByteArray).data.getD 0 0) (x i)) n = true from ha, decide_eq_true h2, hz]
          show (true && (true && (true && z))) = z
          simp
        have HG := Lib.hid HG
        clear ha
        go_enter Try.func14, Try.ntmps14
        go_wp2_with fail
        go_at_call 19
        refine (areFree_any b n w.heap.size c x hnn _ (H.out.alloc _) (by simp)).mono ?_
        rintro e w1 ⟨rfl, hb1⟩
        have HS1 := Lib.hid (show w1.cell? ⟨w.heap.size, 0, none⟩ = some (.string ⟨#[c]⟩) from cell_keep (by simp) hb1)
        have H1 := Lib.hid ((H.out.alloc (.cells #[.string ⟨#[c]⟩] 9)).below hb1 (by have := H.out.lt; simp; omega))
        have HB1 := Lib.hid (((Below.refl w.heap.size w).alloc (Nat.le_refl _) _).trans (hb1.mono (by simp)))
        clear hb1
        rw [HA.out]
        go_wp2
        go_loopw [6, 28] (fun t i wr => ∃ (k z : Nat), k ≤ n ∧ i = .int .i64 (k : Int) ∧ t = .int .i64 (z : Int) ∧ Hid (z = szs x k + (n - 1)) ∧ z ≤ 3000000 ∧ Hid (k = 0 ∨ z ≤ 4000) ∧ w1 = wr) (fun t i _ => n - (intOf i).toNat)
        case atStart => exact ⟨0, n - 1, by omega, rfl, by rw [Int.natCast_sub (by omega)]; go_num, (show n - 1 = 0 + (n - 1) by omega), by omega, .inl rfl, rfl⟩
        case round =>
          obtain ⟨k, z, hk, rfl, rfl, HZ, hz, HC, rfl⟩ := hrel
          by_cases hlt : k < n
          · have d1 : decide (k < n) = true := by simp; omega
            have c0 : w1.cell? ⟨b, k, none⟩ = some (.string (x k)) := H1.out.cell hlt
            obtain ⟨q, hq⟩ : ∃ q, q = x k := ⟨_, rfl⟩
            have hxk := szs_mono x (show k + 1 ≤ n by omega)
            have HQ := Lib.hid (show z + q.size = szs x (k + 1) + (n - 1) by have := HZ.out; simp only [szs, hq]; omega)
            simp only [szs] at hxk
            have hqs : q.size ≤ 1048576 := by have := HNN.out; rw [hq]; omega
            rw [← hq] at c0
            clear hq hxk
            by_cases h4 : z + q.size ≤ 4000
            · have d4 : decide ((4000 : Int) < (z : Int) + (q.size : Int)) = false := by simp; omega
              have H4 := Lib.hid h4
              clear h4
              go_wp2
              go_roundw
              case rel => exact ⟨k + 1, z + q.size, by omega, by go_num, by go_num, HQ.out, by have := H4.out; omega, .inr H4.out, trivial⟩
              case measure => simp [intOf]; omega
            · have d4 : decide ((4000 : Int) < (z : Int) + (q.size : Int)) = true := by simp; omega
              have G := Lib.hid (HG.out false (decide_eq_false (by have := HQ.out; have := szs_mono x (show k + 1 ≤ n by omega); omega)))
              have HV := Lib.hid (show joinV n x ⟨#[c]⟩ = ⟨#[]⟩ by unfold joinV; rw [G.out]; rfl)
              clear h4
              go_wp2
              go_ret2
              exact ⟨by rw [HV.out, G.out]; rfl, HB1.out⟩
          · have d1 : decide (k < n) = false := by simp; omega
            obtain rfl : k = n := by omega
            have h4 : z ≤ 4000 := by rcases HC.out with h | h <;> omega
            have d4 : decide (4000 < z) = false := by simp; omega
            have G := Lib.hid (HG.out true (decide_eq_true (by have := HZ.out; omega)))
            have HV := Lib.hid (show joinV k x ⟨#[c]⟩ = jn x ⟨#[c]⟩ k by unfold joinV; rw [G.out]; rfl)
            have HJ := Lib.hid (jn_bytes x ⟨#[c]⟩ k)
            have HJS := Lib.hid (jn_size x (sep := ⟨#[c]⟩) rfl k)
            have HJL := Lib.hid (jn_lib x ⟨#[c]⟩ k)
            have HTL := Lib.hid (txts_len x k)
            have HLT := Lib.hid H1.out.lt
            have HCA := Lib.hid (Try.strings_Join b 0 k (txts x k) ⟨#[c]⟩ w1 (fun j v hj => by
              obtain ⟨h5, rfl⟩ := txts_get x hj
              rw [Nat.zero_add]
              exact H1.out.cell h5) HLT.out (by rw [HTL.out]; omega) (by rw [HTL.out]; omega) (by
              rw [HJL.out]
              have e2 : (jn x ⟨#[c]⟩ k).data.size = (jn x ⟨#[c]⟩ k).size := rfl
              have := HJS.out
              have := HZ.out
              simp
              omega))
            have HCB := Lib.hid (show Calls Try.prog 22 #[.slice (some ⟨b, 0, none⟩) k k, .string ⟨#[c]⟩] w1 fun e w' => e = .returned (.string (jn x ⟨#[c]⟩ k)) ∧ Below w1.heap.size w1 w' by
              have h := HCA.out
              rw [HTL.out, HJ.out] at h
              exact h)
            have cS := HS1.out
            clear HC
            go_wp2_with fail
            go_at_call 22
            refine HCB.out.mono ?_
            rintro e w2 ⟨rfl, hb2⟩
            have HB2 := Lib.hid (HB1.out.trans (hb2.mono HB1.out.size))
            clear hb2
            go_wp2
            go_ret2
            exact ⟨by rw [HV.out, G.out]; rfl, HB2.out⟩
    · have G := Lib.hid (show joinB n x sep = false by unfold joinB; rw [decide_eq_false h1]; simp)
      have HV := Lib.hid (show joinV n x sep = ⟨#[]⟩ by unfold joinV; rw [G.out]; rfl)
      have d1 : ((sep.size : Int) != 1) = true := by simp; omega
      go_enter Try.func14, Try.ntmps14
      go_wp2
      go_ret2
      exact ⟨by rw [HV.out, G.out]; rfl, (Below.refl _ _).alloc (Nat.le_refl _) _⟩
  · obtain rfl : n = 0 := by omega
    have G := Lib.hid (show joinB 0 x sep = false from rfl)
    have HV := Lib.hid (show joinV 0 x sep = ⟨#[]⟩ from rfl)
    go_enter Try.func14, Try.ntmps14
    go_wp2
    go_ret2
    exact ⟨by rw [HV.out, G.out]; rfl, (Below.refl _ _).alloc (Nat.le_refl _) _⟩
end Go.Proofs.Ythjfnfhadgmglaa
