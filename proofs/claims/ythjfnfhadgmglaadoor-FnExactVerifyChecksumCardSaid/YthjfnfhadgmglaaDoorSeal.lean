/- AppendChecksum, both sides. -/
import Derived.Test.YthjfnfhadgmglaaDoorFmtInt
import Derived.Test.YthjfnfhadgmglaaDoorStr
import Derived.Test.YthjfnfhadgmglaaDoorContS
import Derived.Lib.IndexLaws
set_option linter.unusedVariables false
set_option linter.unusedSimpArgs false
set_option linter.unusedSectionVars false
namespace Go.Proofs.YthjfnfhadgmglaaDoor
open Go.RowKit
def hasB (s : ByteArray) : Bool := decide (0 ≤ Lib.indexByte s.data.toList 35)
theorem has_yes {s : ByteArray} {k : Nat} (h : k < s.size) (e : (s[k]'h).toNat = 35) : hasB s = true := by
  have hg := Lib.indexByte_ge s.data.toList 35
  unfold hasB
  by_cases q : Lib.indexByte s.data.toList 35 = -1
  · have h1 := Lib.indexByte_none q k
    have h2 : s.data.toList[k]? = some (35 : UInt8) := by
      have e2 : s[k]'h = (35 : UInt8) := UInt8.toNat_inj.1 e
      rw [← e2]
      simp only [Array.getElem?_toList]
      exact Array.getElem?_eq_getElem h
    exact absurd h2 h1
  · exact decide_eq_true (by omega)
theorem has_no {s : ByteArray} (h : ∀ k (hk : k < s.size), (s[k]'hk).toNat ≠ 35) : hasB s = false := by
  have hg := Lib.indexByte_ge s.data.toList 35
  unfold hasB
  apply decide_eq_false
  intro h0
  obtain ⟨o, ho⟩ := Int.eq_ofNat_of_zero_le h0
  have h1 := (Lib.indexByte_some ho).1
  simp only [Array.getElem?_toList] at h1
  obtain ⟨hlt, e⟩ := Array.getElem?_eq_some_iff.1 h1
  refine h o hlt ?_
  have : s[o]'hlt = (35 : UInt8) := e
  rw [this]
  rfl
set_option maxHeartbeats 1000000 in
theorem l1Stands_any (s : ByteArray) (hs : s.size ≤ 4000) (w : World) : Calls Tryd.prog 39 #[.string s, .int .u8 35] w fun e w' => e = .returned (.bool (hasB s)) ∧ w = w' := by
  go_enter Tryd.func39, Tryd.ntmps39
  go_wp2
  go_loopw [5] (fun i wr => ∃ k : Nat, k ≤ s.size ∧ i = .int .i64 (k : Int) ∧ Hid (∀ j (hj : j < s.size), j < k → (s[j]'hj).toNat ≠ 35) ∧ w = wr) (fun i _ => s.size - (intOf i).toNat)
  case atStart => exact ⟨0, by omega, rfl, fun j _ h => by omega, rfl⟩
  case round =>
    obtain ⟨k, hk, rfl, HK, rfl⟩ := hrel
    by_cases hlt : k < s.size
    · have d1 : decide ((k : Int) < (s.size : Int)) = true := by simp; omega
      by_cases he : (s[k]'hlt).toNat = 35
      · have HY := Lib.hid (has_yes hlt he)
        have d2 : (((s[k]'hlt).toNat : Int) == 35) = true := by simp [he]
        clear he
        go_wp2
        go_ret
        exact ⟨by rw [HY.out]; rfl, rfl⟩
      · have HE := Lib.hid he
        have d2 : (((s[k]'hlt).toNat : Int) == 35) = false := by simp; omega
        clear he
        go_wp2
        go_roundw
        case rel => exact ⟨k + 1, by omega, by go_num, fun j hj h => by
          by_cases e : j = k
          · subst e; exact HE.out
          · exact HK.out j hj (by omega), trivial⟩
        case measure => simp [intOf]; omega
    · have d1 : decide ((k : Int) < (s.size : Int)) = false := by simp; omega
      have HN := Lib.hid (has_no (s := s) (fun j hj => HK.out j hj (by omega)))
      go_wp2
      go_ret
      exact ⟨by rw [HN.out]; rfl, rfl⟩
def sealV (s : ByteArray) : ByteArray := (s ++ ⟨#[35]⟩) ++ ⟨(Lib.itoa (hsh s s.size)).toArray⟩
theorem itoa_len {z : Int} (h : 0 ≤ z ∧ z ≤ 999999) : (Lib.itoa z).length ≤ 6 := by
  unfold Lib.itoa
  rw [if_neg (by omega)]
  exact dig_len 6 _ (by omega) (by omega)
theorem seal_adds (s : ByteArray) (hs : s.size ≤ 4000) : (∀ w, (Op.stringOp .add s ⟨#[35]⟩).run Tryd.prog w = .ok (.string (s ++ ⟨#[35]⟩)) w) ∧ (∀ w, (Op.stringOp .add (s ++ ⟨#[35]⟩) ⟨(Lib.itoa (hsh s s.size)).toArray⟩).run Tryd.prog w = .ok (.string (sealV s)) w) := by
  have h1 := itoa_len (z := hsh s s.size) (by have := hsh_bd s s.size; omega)
  have h2 : (⟨#[35]⟩ : ByteArray).size = 1 := rfl
  have h3 : (⟨(Lib.itoa (hsh s s.size)).toArray⟩ : ByteArray).size = (Lib.itoa (hsh s s.size)).length := List.size_toArray
  exact ⟨fun w => run_string_add_sum w _ _ (by omega), fun w => run_string_add_sum w _ _ (by rw [ByteArray.size_append]; omega)⟩
theorem l1Seal_any (s : ByteArray) (hs : s.size ≤ 4000) (w : World) : Calls Tryd.prog 40 #[.string s] w fun e w' => e = .returned (.string (sealV s)) ∧ ∃ m, w' = w.drewN m := by
  obtain ⟨a1, a2⟩ := seal_adds s hs
  have HB := Lib.hid (show -999999 ≤ hsh s s.size ∧ hsh s s.size ≤ 999999 by have := hsh_bd s s.size; omega)
  go_enter Tryd.func40, Tryd.ntmps40
  go_wp2_with fail
  go_at_call 56
  refine (l1Sum_any s hs _).mono ?_
  rintro e w' ⟨rfl, rfl⟩
  go_wp2_with fail
  go_at_call 33
  refine (num_any _ HB.out _).mono ?_
  rintro e w' ⟨rfl, m, rfl⟩
  go_wp2
  go_ret
  exact ⟨rfl, m, rfl⟩
def sealB (s : ByteArray) : Bool := decide (s.size ≤ 4000) && (!hasB s && decide ((sealV s).size ≤ 4000))
def appV (s : ByteArray) : ByteArray := if sealB s then sealV s else ⟨#[]⟩
theorem sAppend_any (s : ByteArray) (w : World) : Calls Tryd.prog 17 #[.string s] w fun e w' => e = .returned (.tuple #[.string (appV s), .bool (sealB s)]) ∧ ∃ m, w' = w.drewN m := by
  by_cases h1 : s.size ≤ 4000
  · have d1 : decide ((4000 : Int) < (s.size : Int)) = false := by simp; omega
    have HL := Lib.hid (l1Seal_any s h1)
    cases hb : hasB s
    · obtain ⟨v, hv⟩ : ∃ v, v = sealV s := ⟨_, rfl⟩
      by_cases h2 : (sealV s).size ≤ 4000
      · have G := Lib.hid (show sealB s = true by unfold sealB; rw [hb, decide_eq_true h1, decide_eq_true h2]; rfl)
        have HV := Lib.hid (show appV s = v by unfold appV; rw [G.out, hv]; rfl)
        have HBB := Lib.hid hb
        rw [← hv] at h2 HL
        clear hb hv
        have d2 : decide ((4000 : Int) < (v.size : Int)) = false := by simp; omega
        go_enter Tryd.func17, Tryd.ntmps17
        go_wp2_with fail
        go_at_call 39
        refine (l1Stands_any s h1 _).mono ?_
        rintro e w' ⟨rfl, rfl⟩
        rw [HBB.out]
        go_wp2_with fail
        go_at_call 40
        refine (HL.out _).mono ?_
        rintro e w' ⟨rfl, m, rfl⟩
        go_wp2_with fail
        go_at_call 40
        refine (HL.out _).mono ?_
        rintro e w' ⟨rfl, m2, rfl⟩
        go_wp2
        go_ret2
        exact ⟨by rw [HV.out, G.out]; rfl, m + m2, rfl⟩
      · have G := Lib.hid (show sealB s = false by unfold sealB; rw [hb, decide_eq_true h1, decide_eq_false h2]; rfl)
        have HV := Lib.hid (show appV s = ⟨#[]⟩ by unfold appV; rw [G.out]; rfl)
        have HBB := Lib.hid hb
        rw [← hv] at h2 HL
        clear hb hv
        have d2 : decide ((4000 : Int) < (v.size : Int)) = true := by simp; omega
        go_enter Tryd.func17, Tryd.ntmps17
        go_wp2_with fail
        go_at_call 39
        refine (l1Stands_any s h1 _).mono ?_
        rintro e w' ⟨rfl, rfl⟩
        rw [HBB.out]
        go_wp2_with fail
        go_at_call 40
        refine (HL.out _).mono ?_
        rintro e w' ⟨rfl, m, rfl⟩
        go_wp2
        go_ret2
        exact ⟨by rw [HV.out, G.out]; rfl, m, rfl⟩
    · have G := Lib.hid (show sealB s = false by unfold sealB; rw [hb, decide_eq_true h1]; rfl)
      have HV := Lib.hid (show appV s = ⟨#[]⟩ by unfold appV; rw [G.out]; rfl)
      have HBB := Lib.hid hb
      clear hb
      go_enter Tryd.func17, Tryd.ntmps17
      go_wp2_with fail
      go_at_call 39
      refine (l1Stands_any s h1 _).mono ?_
      rintro e w' ⟨rfl, rfl⟩
      rw [HBB.out]
      go_wp2
      go_ret2
      exact ⟨by rw [HV.out, G.out]; rfl, 0, rfl⟩
  · have d1 : decide ((4000 : Int) < (s.size : Int)) = true := by simp; omega
    have G := Lib.hid (show sealB s = false by unfold sealB; rw [decide_eq_false h1]; rfl)
    have HV := Lib.hid (show appV s = ⟨#[]⟩ by unfold appV; rw [G.out]; rfl)
    go_enter Tryd.func17, Tryd.ntmps17
    go_wp2
    go_ret2
    exact ⟨by rw [HV.out, G.out]; rfl, 0, rfl⟩
set_option maxHeartbeats 1000000 in
theorem iAppend_any (s : ByteArray) (w : World) (htab : Lib.TabIs Tryd.prog w "internal/strconv.uint64pow10" .u64 Lib.pow10Tab) : Calls Tryd.prog 18 #[.string s] w fun e w' => e = .returned (.tuple #[.string (appV s), .bool (sealB s)]) ∧ Below w.heap.size w w' := by
  have HTAB := Lib.hid htab; clear htab
  have HZ := Lib.hid (hsh_bd s s.size)
  by_cases h1 : s.size ≤ 4000
  · have d1 : decide ((4000 : Int) < (s.size : Int)) = false := by simp; omega
    cases hb : hasB s
    · obtain ⟨a1, a2⟩ := seal_adds s h1
      obtain ⟨v, hv⟩ : ∃ v, v = sealV s := ⟨_, rfl⟩
      by_cases h2 : (sealV s).size ≤ 4000
      · have G := Lib.hid (show sealB s = true by unfold sealB; rw [hb, decide_eq_true h1, decide_eq_true h2]; rfl)
        have HV := Lib.hid (show appV s = v by unfold appV; rw [G.out, hv]; rfl)
        have HBB := Lib.hid (show decide (0 ≤ Lib.indexByte s.data.toList 35) = false from hb)
        rw [← hv] at h2 a2
        clear hb hv
        have d2 : decide ((4000 : Int) < (v.size : Int)) = false := by simp; omega
        go_enter Tryd.func18, Tryd.ntmps18
        go_wp2_with fail
        go_at_call 41
        refine (Tryd.strings_Contains_one s 35 _).mono ?_
        rintro e w' ⟨rfl, rfl⟩
        rw [HBB.out]
        go_wp2_with fail
        go_at_call 42
        refine (iChecksum_any s h1 _).mono ?_
        rintro e w' ⟨rfl, rfl⟩
        go_wp2_with fail
        go_at_call 35
        refine (Tryd.strconv_Itoa _ (by have := HZ.out; omega) (by have := HZ.out; omega) _ HTAB.out).mono ?_
        rintro e w' ⟨rfl, k, os, rfl⟩
        go_wp2
        go_ret2
        exact ⟨by rw [HV.out, G.out]; rfl, Lib.below_grow _ _ (Nat.le_refl _) _ _⟩
      · have G := Lib.hid (show sealB s = false by unfold sealB; rw [hb, decide_eq_true h1, decide_eq_false h2]; rfl)
        have HV := Lib.hid (show appV s = ⟨#[]⟩ by unfold appV; rw [G.out]; rfl)
        have HBB := Lib.hid (show decide (0 ≤ Lib.indexByte s.data.toList 35) = false from hb)
        rw [← hv] at h2 a2
        clear hb hv
        have d2 : decide ((4000 : Int) < (v.size : Int)) = true := by simp; omega
        go_enter Tryd.func18, Tryd.ntmps18
        go_wp2_with fail
        go_at_call 41
        refine (Tryd.strings_Contains_one s 35 _).mono ?_
        rintro e w' ⟨rfl, rfl⟩
        rw [HBB.out]
        go_wp2_with fail
        go_at_call 42
        refine (iChecksum_any s h1 _).mono ?_
        rintro e w' ⟨rfl, rfl⟩
        go_wp2_with fail
        go_at_call 35
        refine (Tryd.strconv_Itoa _ (by have := HZ.out; omega) (by have := HZ.out; omega) _ HTAB.out).mono ?_
        rintro e w' ⟨rfl, k, os, rfl⟩
        go_wp2
        go_ret2
        exact ⟨by rw [HV.out, G.out]; rfl, Lib.below_grow _ _ (Nat.le_refl _) _ _⟩
    · have G := Lib.hid (show sealB s = false by unfold sealB; rw [hb, decide_eq_true h1]; rfl)
      have HV := Lib.hid (show appV s = ⟨#[]⟩ by unfold appV; rw [G.out]; rfl)
      have HBB := Lib.hid (show decide (0 ≤ Lib.indexByte s.data.toList 35) = true from hb)
      clear hb
      go_enter Tryd.func18, Tryd.ntmps18
      go_wp2_with fail
      go_at_call 41
      refine (Tryd.strings_Contains_one s 35 _).mono ?_
      rintro e w' ⟨rfl, rfl⟩
      rw [HBB.out]
      go_wp2
      go_ret2
      exact ⟨by rw [HV.out, G.out]; rfl, Below.refl _ _⟩
  · have d1 : decide ((4000 : Int) < (s.size : Int)) = true := by simp; omega
    have G := Lib.hid (show sealB s = false by unfold sealB; rw [decide_eq_false h1]; rfl)
    have HV := Lib.hid (show appV s = ⟨#[]⟩ by unfold appV; rw [G.out]; rfl)
    go_enter Tryd.func18, Tryd.ntmps18
    go_wp2
    go_ret2
    exact ⟨by rw [HV.out, G.out]; rfl, Below.refl _ _⟩
theorem lawA_any (x : ByteArray) (hx : x.size ≤ maxLen) (w : World) (htab : Lib.TabIs Tryd.prog w "internal/strconv.uint64pow10" .u64 Lib.pow10Tab) : Calls Tryd.prog 5 #[.string x] w fun e w' => e = .returned (.bool true) ∧ Below w.heap.size w w' := by
  have HTAB := Lib.hid htab; clear htab
  obtain ⟨s, hs⟩ : ∃ s, s = appV x := ⟨_, rfl⟩
  obtain ⟨b, hb⟩ : ∃ b, b = sealB x := ⟨_, rfl⟩
  have SA := Lib.hid (fun w => sAppend_any x w)
  have IA := Lib.hid (fun w h => iAppend_any x w h)
  rw [← hs, ← hb] at SA IA
  clear hs hb
  have e1 : (s.toList == s.toList) = true := by simp
  by_cases hb : x.size ≤ 1048576
  · have d1 : decide ((1048576 : Int) < (x.size : Int)) = false := by simp; omega
    go_enter Tryd.func5, Tryd.ntmps5
    go_wp2_with fail
    go_at_call 17
    refine (SA.out _).mono ?_
    rintro e w' ⟨rfl, m, rfl⟩
    go_wp2_with fail
    go_at_call 18
    refine (IA.out _ (show Lib.TabIs Tryd.prog (w.drewN m) _ _ _ from HTAB.out)).mono ?_
    rintro e w' ⟨rfl, hb⟩
    have HB := Lib.hid (show Below w.heap.size w w' from (below_drewN (Below.refl _ _) m).trans hb)
    clear hb
    go_wp2
    go_ret
    exact ⟨rfl, HB.out⟩
  · have d1 : decide ((1048576 : Int) < (x.size : Int)) = true := by simp; omega
    go_enter Tryd.func5, Tryd.ntmps5
    go_wp2
    go_ret
    exact ⟨rfl, Below.refl _ _⟩
end Go.Proofs.YthjfnfhadgmglaaDoor
