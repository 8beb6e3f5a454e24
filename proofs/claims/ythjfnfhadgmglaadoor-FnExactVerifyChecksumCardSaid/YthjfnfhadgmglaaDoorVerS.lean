/- VerifyChecksum, both sides, and its law. -/
import Derived.Test.YthjfnfhadgmglaaDoorSplt
import Derived.Test.YthjfnfhadgmglaaDoorSeal
import Derived.Test.YthjfnfhadgmglaaDoorCutM
set_option linter.unusedVariables false
set_option linter.unusedSimpArgs false
set_option linter.unusedSectionVars false
namespace Go.Proofs.YthjfnfhadgmglaaDoor
open Go.RowKit
def verB (s : ByteArray) : Bool := decide (s.size ≤ 4000) && decide (sealV (preB 35 s) = s)
def verV (s : ByteArray) : ByteArray := if verB s then preB 35 s else ⟨#[]⟩
theorem pre_hasB (s : ByteArray) : hasB (preB 35 s) = false := by
  unfold hasB preB
  simp [pre_has 35 s.data.toList]
theorem ver_app (s : ByteArray) : (sealB (preB 35 s) = true ∧ appV (preB 35 s) = s) ↔ verB s = true := by
  have h1 := preB_size 35 s
  unfold verB sealB appV
  constructor
  · rintro ⟨h2, h3⟩
    unfold sealB at h3
    rw [h2] at h3
    simp only [if_true] at h3
    simp only [Bool.and_eq_true, decide_eq_true_eq] at h2 ⊢
    rw [h3] at h2
    exact ⟨h2.2.2, h3⟩
  · intro h2
    simp only [Bool.and_eq_true, decide_eq_true_eq] at h2
    have h3 : (decide ((preB 35 s).size ≤ 4000) && (!hasB (preB 35 s) && decide ((sealV (preB 35 s)).size ≤ 4000))) = true := by
      rw [pre_hasB, h2.2, decide_eq_true (show (preB 35 s).size ≤ 4000 by omega), decide_eq_true h2.1]; rfl
    unfold sealB
    rw [h3]
    exact ⟨rfl, by simp only [if_true]; exact h2.2⟩
set_option maxRecDepth 100000 in
set_option maxHeartbeats 1000000 in
theorem sVerify_any (s : ByteArray) (w : World) : Calls Tryd.prog 19 #[.string s] w fun e w' => e = .returned (.tuple #[.string (verV s), .bool (verB s)]) ∧ Below w.heap.size w w' := by
  by_cases h1 : s.size ≤ 4000
  · have d1 : decide ((4000 : Int) < (s.size : Int)) = false := by simp; omega
    have HL := Lib.hid (fun w => l1Split_any s 35 (by omega) w)
    obtain ⟨t, ht⟩ := parts_head 35 s
    have HP := Lib.hid (preB_size 35 s)
    obtain ⟨p, hp⟩ : ∃ p, p = preB 35 s := ⟨_, rfl⟩
    obtain ⟨v, hv⟩ : ∃ v, v = sealV p := ⟨_, rfl⟩
    have HS := Lib.hid (fun w => l1Seal_any p (by have := HP.out; rw [hp]; omega) w)
    rw [← hv] at HS
    rw [← hp] at ht
    have HT := Lib.hid ht
    have HG : ∀ b, verB s = b ↔ decide (v = s) = b := fun b => by unfold verB; rw [decide_eq_true h1, Bool.true_and, hv, hp]
    have HG := Lib.hid HG
    have HPP := Lib.hid hp
    clear ht hp hv
    by_cases h2 : v = s
    · subst h2
      have G := Lib.hid ((HG.out true).2 (by simp))
      have HV := Lib.hid (show verV v = p by unfold verV; rw [G.out, HPP.out]; rfl)
      go_enter Tryd.func19, Tryd.ntmps19
      go_wp2_with fail
      go_at_call 36
      refine (HL.out _).mono ?_
      rintro e w1 ⟨A, cp, rfl, hS, hb⟩
      rw [HT.out] at hS ⊢
      obtain ⟨g, rfl, _, _, c0⟩ := hS.cell (show 0 < (p :: t).length by simp)
      have c0 : w1.cell? ⟨g, 0, none⟩ = some (.string p) := c0
      have HB := Lib.hid hb
      clear hS hb
      simp only [List.length_cons]
      go_wp2_with fail
      go_at_call 40
      refine (HS.out _).mono ?_
      rintro e w2 ⟨rfl, m, rfl⟩
      go_wp2
      go_ret2
      exact ⟨by rw [HV.out, G.out]; rfl, below_drewN HB.out m⟩
    · have G := Lib.hid ((HG.out false).2 (by simp; exact h2))
      have HV := Lib.hid (show verV s = ⟨#[]⟩ by unfold verV; rw [G.out]; rfl)
      have n1 := str_ne h2
      go_enter Tryd.func19, Tryd.ntmps19
      go_wp2_with fail
      go_at_call 36
      refine (HL.out _).mono ?_
      rintro e w1 ⟨A, cp, rfl, hS, hb⟩
      rw [HT.out] at hS ⊢
      obtain ⟨g, rfl, _, _, c0⟩ := hS.cell (show 0 < (p :: t).length by simp)
      have c0 : w1.cell? ⟨g, 0, none⟩ = some (.string p) := c0
      have HB := Lib.hid hb
      clear hS hb
      simp only [List.length_cons]
      go_wp2_with fail
      go_at_call 40
      refine (HS.out _).mono ?_
      rintro e w2 ⟨rfl, m, rfl⟩
      go_wp2
      go_ret2
      exact ⟨by rw [HV.out, G.out]; rfl, below_drewN HB.out m⟩
  · have d1 : decide ((4000 : Int) < (s.size : Int)) = true := by simp; omega
    have G := Lib.hid (show verB s = false by unfold verB; rw [decide_eq_false h1]; rfl)
    have HV := Lib.hid (show verV s = ⟨#[]⟩ by unfold verV; rw [G.out]; rfl)
    go_enter Tryd.func19, Tryd.ntmps19
    go_wp2
    go_ret2
    exact ⟨by rw [HV.out, G.out]; rfl, Below.refl _ _⟩
set_option maxRecDepth 100000 in
set_option maxHeartbeats 1000000 in
theorem iVerify_any (s : ByteArray) (hs : s.size ≤ 1048576) (m : Int) (w : World) (htab : Lib.TabIs Tryd.prog w "internal/strconv.uint64pow10" .u64 Lib.pow10Tab) (hm : w.cell? ⟨0, 0, none⟩ = some (.int .i64 m)) : Calls Tryd.prog 20 #[.string s] w fun e w' => e = .returned (.tuple #[.string (verV s), .bool (verB s)]) ∧ Below w.heap.size w w' := by
  have HTAB := Lib.hid htab; clear htab
  have HM := Lib.hid hm; clear hm
  have HCUT := Lib.hid (show (⟨(Lib.cut s.data.toList [35]).1.toArray⟩ : ByteArray) = preB 35 s by rw [cut_pre]; rfl)
  have HA := Lib.hid (ver_app s)
  have IA := Lib.hid (fun w h => iAppend_any (preB 35 s) w h)
  obtain ⟨q, hq⟩ : ∃ q, q = preB 35 s := ⟨_, rfl⟩
  rw [← hq] at HCUT HA IA
  obtain ⟨b, hb⟩ : ∃ b, b = sealB q := ⟨_, rfl⟩
  obtain ⟨v, hv⟩ : ∃ v, v = appV q := ⟨_, rfl⟩
  rw [← hb, ← hv] at IA HA
  have HQ := Lib.hid hq
  clear hq hb hv
  cases b
  · have G := Lib.hid (show verB s = false by cases e : verB s <;> first | rfl | (have := HA.out.2 e; cases this.1))
    have HV := Lib.hid (show verV s = ⟨#[]⟩ by unfold verV; rw [G.out]; rfl)
    go_enter Tryd.func20, Tryd.ntmps20
    go_wp2_with fail
    go_at_call 43
    refine (Tryd.strings_Cut s ⟨#[35]⟩ m _ (by omega) HM.out).mono ?_
    rintro e w1 ⟨rfl, n, rfl⟩
    rw [HCUT.out]
    go_wp2_with fail
    go_at_call 18
    refine (IA.out _ (show Lib.TabIs Tryd.prog (w.drewN n) _ _ _ from HTAB.out)).mono ?_
    rintro e w2 ⟨rfl, hb⟩
    have HB := Lib.hid (show Below w.heap.size w w2 from (below_drewN (Below.refl _ _) n).trans hb)
    clear hb
    go_wp2
    go_ret2
    exact ⟨by rw [HV.out, G.out]; rfl, HB.out⟩
  · by_cases h2 : v = s
    · subst h2
      have G := Lib.hid (show verB v = true from HA.out.1 ⟨rfl, rfl⟩)
      have HV := Lib.hid (show verV v = q by unfold verV; rw [G.out, HQ.out]; rfl)
      go_enter Tryd.func20, Tryd.ntmps20
      go_wp2_with fail
      go_at_call 43
      refine (Tryd.strings_Cut v ⟨#[35]⟩ m _ (by omega) HM.out).mono ?_
      rintro e w1 ⟨rfl, n, rfl⟩
      rw [HCUT.out]
      go_wp2_with fail
      go_at_call 18
      refine (IA.out _ (show Lib.TabIs Tryd.prog (w.drewN n) _ _ _ from HTAB.out)).mono ?_
      rintro e w2 ⟨rfl, hb⟩
      have HB := Lib.hid (show Below w.heap.size w w2 from (below_drewN (Below.refl _ _) n).trans hb)
      clear hb
      go_wp2
      go_ret2
      exact ⟨by rw [HV.out, G.out]; rfl, HB.out⟩
    · have G := Lib.hid (show verB s = false by cases e : verB s <;> first | rfl | (exact absurd (HA.out.2 e).2 h2))
      have HV := Lib.hid (show verV s = ⟨#[]⟩ by unfold verV; rw [G.out]; rfl)
      have n1 := str_ne h2
      go_enter Tryd.func20, Tryd.ntmps20
      go_wp2_with fail
      go_at_call 43
      refine (Tryd.strings_Cut s ⟨#[35]⟩ m _ (by omega) HM.out).mono ?_
      rintro e w1 ⟨rfl, n, rfl⟩
      rw [HCUT.out]
      go_wp2_with fail
      go_at_call 18
      refine (IA.out _ (show Lib.TabIs Tryd.prog (w.drewN n) _ _ _ from HTAB.out)).mono ?_
      rintro e w2 ⟨rfl, hb⟩
      have HB := Lib.hid (show Below w.heap.size w w2 from (below_drewN (Below.refl _ _) n).trans hb)
      clear hb
      go_wp2
      go_ret2
      exact ⟨by rw [HV.out, G.out]; rfl, HB.out⟩
end Go.Proofs.YthjfnfhadgmglaaDoor
