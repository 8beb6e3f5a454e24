/- The reference's l1Split. -/
import Derived.Test.YthjfnfhadgmglaaDoorTxt
import Derived.Test.YthjfnfhadgmglaaDoorSplitP
set_option linter.unusedVariables false
set_option linter.unusedSimpArgs false
set_option linter.unusedSectionVars false
namespace Go.Proofs.YthjfnfhadgmglaaDoor
open Go.RowKit
theorem drop_at {s : ByteArray} {k : Nat} (h : k < s.size) : s.data.toList.drop k = s[k]'h :: s.data.toList.drop (k + 1) := by
  have h' : k < s.data.toList.length := by simpa using h
  rw [List.drop_eq_getElem_cons h']
  rfl
theorem sp_hit {c : UInt8} {s : ByteArray} {k f : Nat} (h : k < s.size) (e : s[k]'h = c) (L : List ByteArray) (H : L.map (·.data.toList) ++ sp c ((s.data.toList.drop f).take (k - f)) (s.data.toList.drop k) = sp c [] s.data.toList) :
    (L ++ [s.extract f k]).map (·.data.toList) ++ sp c ((s.data.toList.drop (k + 1)).take (k + 1 - (k + 1))) (s.data.toList.drop (k + 1)) = sp c [] s.data.toList := by
  rw [← H, drop_at h, sp, if_pos e, List.map_append, List.map_cons, List.map_nil, Lib.extract_data]
  simp
theorem sp_miss {c : UInt8} {s : ByteArray} {k f : Nat} (h : k < s.size) (hf : f ≤ k) (e : s[k]'h ≠ c) (L : List ByteArray) (H : L.map (·.data.toList) ++ sp c ((s.data.toList.drop f).take (k - f)) (s.data.toList.drop k) = sp c [] s.data.toList) :
    L.map (·.data.toList) ++ sp c ((s.data.toList.drop f).take (k + 1 - f)) (s.data.toList.drop (k + 1)) = sp c [] s.data.toList := by
  rw [← H, drop_at h, sp, if_neg e]
  congr 2
  rw [show k + 1 - f = (k - f) + 1 by omega, List.take_add_one, List.getElem?_drop, show f + (k - f) = k by omega]
  have h' : k < s.data.toList.length := by simpa using h
  rw [List.getElem?_eq_getElem h']
  rfl
theorem sp_last {c : UInt8} {s : ByteArray} {f : Nat} (L : List ByteArray) (H : L.map (·.data.toList) ++ sp c ((s.data.toList.drop f).take (s.size - f)) (s.data.toList.drop s.size) = sp c [] s.data.toList) : L ++ [s.extract f s.size] = parts c s := by
  have h0 : s.data.toList.drop s.size = [] := List.drop_eq_nil_of_le (by show s.data.toList.length ≤ s.data.size; simp)
  rw [h0, sp] at H
  unfold parts
  rw [← H, List.map_append, map_data]
  congr 1
  rw [List.map_cons, List.map_nil, ← Lib.extract_data]
theorem parts_bd {c : UInt8} {s : ByteArray} {f k : Nat} (L : List ByteArray) (H : L.map (·.data.toList) ++ sp c ((s.data.toList.drop f).take (k - f)) (s.data.toList.drop k) = sp c [] s.data.toList) : L.length ≤ s.size := by
  have h1 := congrArg List.length H
  have h2 := parts_len_le c s
  unfold parts at h2
  rw [List.length_map] at h2
  rw [List.length_append, List.length_map] at h1
  have h3 : sp c ((s.data.toList.drop f).take (k - f)) (s.data.toList.drop k) ≠ [] := sp_ne _ _ _
  have := List.length_pos_iff.2 h3
  omega
set_option maxRecDepth 100000 in
set_option maxHeartbeats 2000000 in
theorem l1Split_any (s : ByteArray) (c : UInt8) (hs : s.size ≤ 1048576) (w : World) : Calls Tryd.prog 36 #[.string s, .int .u8 (c.toNat : Int)] w fun e w' => ∃ A cp, e = .returned (.slice A (parts c s).length cp) ∧ Strs w' w.heap.size A (parts c s).length cp (atS (parts c s)) ∧ Below w.heap.size w w' := by
  go_enter Tryd.func36, Tryd.ntmps36
  go_wp2
  go_loopw [5, 6, 7] (fun v fr i wr => ∃ (k f : Nat) (L : List ByteArray), k ≤ s.size ∧ f ≤ k ∧ i = .int .i64 (k : Int) ∧ fr = .int .i64 (f : Int) ∧ (∃ A cp, v = .slice A L.length cp ∧ Strs wr w.heap.size A L.length cp (atS L)) ∧ Hid (L.map (·.data.toList) ++ sp c ((s.data.toList.drop f).take (k - f)) (s.data.toList.drop k) = sp c [] s.data.toList) ∧ Below w.heap.size w wr) (fun v fr i _ => s.size - (intOf i).toNat)
  case atStart => exact ⟨0, 0, [], by omega, by omega, rfl, rfl, ⟨_, 0, rfl, Strs.empty w _ _ (Nat.le_refl _)⟩, rfl, (Below.refl _ _).alloc (Nat.le_refl _) _⟩
  case round =>
    obtain ⟨k, f, L, hk, hf, rfl, rfl, ⟨A, cp, rfl, hI⟩, HE, hb⟩ := hrel
    have HI := Lib.hid hI; have HB := Lib.hid hb
    clear hI hb
    have HZ := Lib.hid HB.out.size
    have Z1 := Lib.hid (show ∀ x, (wr.alloc (.cells #[.string x] 9)).cell? ⟨wr.heap.size, 0, none⟩ = some (.string x) from fun x => by simp)
    have Z2 := Lib.hid (fun x => HI.out.below ((Below.refl wr.heap.size wr).alloc (Nat.le_refl _) (.cells #[.string x] 9)))
    have Z3 := Lib.hid (show ∀ x, w.heap.size ≤ (wr.alloc (.cells #[.string x] 9)).heap.size from fun x => by have := HZ.out; simp; omega)
    have Z4 := Lib.hid (show L.length ≤ 2000000 by have := parts_bd L HE.out; omega)
    by_cases hlt : k < s.size
    · have d0 : decide ((k : Int) < (s.size : Int)) = true := by simp; omega
      by_cases he : s[k]'hlt = c
      · have HX := Lib.hid (sp_hit hlt he L HE.out)
        have d2 : (((s[k]'hlt).toNat : Int) == (c.toNat : Int)) = true := by rw [he]; simp
        clear he
        go_wp2_with (first | (((with_reducible apply wpList_append_strs); (case hgd => rfl); (case ho => rfl); (case hs => rfl); (case hx => rfl); (case hS => exact Tryd.underlying25); (case hown => exact Z2.out _); (case hz => exact Z1.out _); (case hm => exact Z4.out); (case hB => exact Z3.out _); intro A2 c2 w2 hI2 hg2)) | fail)
        go_roundw
        case rel => exact ⟨k + 1, k + 1, L ++ [s.extract f k], by omega, Nat.le_refl _, by go_num, by go_num, ⟨A2, c2, by rw [List.length_append]; rfl, hI2⟩, HX.out, Strs.append_below HB.out HI.out (Nat.le_refl _) hg2⟩
        case measure => simp [intOf]; omega
      · have HX := Lib.hid (sp_miss hlt hf he L HE.out)
        have d2 : (((s[k]'hlt).toNat : Int) == (c.toNat : Int)) = false := by
          rw [beq_eq_false_iff_ne]
          intro e
          exact he (UInt8.toNat_inj.1 (by omega))
        clear he
        go_wp2
        go_roundw
        case rel => exact ⟨k + 1, f, L, by omega, by omega, by go_num, rfl, ⟨A, cp, rfl, HI.out⟩, HX.out, HB.out⟩
        case measure => simp [intOf]; omega
    · have d0 : decide ((k : Int) < (s.size : Int)) = false := by simp; omega
      obtain rfl : k = s.size := by omega
      have HX := Lib.hid (sp_last L HE.out)
      go_wp2_with (first | (((with_reducible apply wpList_append_strs); (case hgd => rfl); (case ho => rfl); (case hs => rfl); (case hx => rfl); (case hS => exact Tryd.underlying25); (case hown => exact Z2.out _); (case hz => exact Z1.out _); (case hm => exact Z4.out); (case hB => exact Z3.out _); intro A2 c2 w2 hI2 hg2)) | fail)
      go_ret
      exact ⟨A2, c2, by rw [← HX.out, List.length_append]; rfl, by rw [← HX.out]; exact hI2, Strs.append_below HB.out HI.out (Nat.le_refl _) hg2⟩
end Go.Proofs.YthjfnfhadgmglaaDoor
