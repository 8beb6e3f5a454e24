/- The reference's RingsOf. -/
import Derived.Test.YtbfhfadfjgfmaaaRgR
set_option linter.unusedVariables false
set_option linter.unusedSimpArgs false
set_option linter.unusedSectionVars false
namespace Go.Proofs.Ytbfhfadfjgfmaaa
open Go.RowKit
def rowR (n : Nat) (B : Nat → Nat → Bool) (L : Nat) : List (List Nat) := if 3 ≤ L then (List.range n).flatMap fun i => ringsR n B L (n + 1) [i] else []
def partR (n : Nat) (B : Nat → Nat → Bool) (L : Nat) : List (List Nat) := (List.range L).flatMap (rowR n B)
theorem partR_all (n : Nat) (B : Nat → Nat → Bool) : partR n B (n + 1) = allR n B := rfl
theorem partR_low {n : Nat} {B : Nat → Nat → Bool} {L : Nat} (h : L ≤ 3) : partR n B L = [] := flat_nil _ fun a ha => if_neg (by have := List.mem_range.1 ha; omega)
theorem partR_next {n : Nat} {B : Nat → Nat → Bool} {L : Nat} (h : 3 ≤ L) : partR n B (L + 1) = partR n B L ++ (List.range n).flatMap fun i => ringsR n B L (n + 1) [i] := by
  unfold partR
  rw [range_flat]
  congr 1
  exact if_pos h
theorem partR_le {n : Nat} {B : Nat → Nat → Bool} {L : Nat} (h : L ≤ n + 1) (n6 : n ≤ 6) : (partR n B L).length ≤ 1000 := Nat.le_trans (range_flat_le (rowR n B) (n + 1) h) (allR_le B n6)
set_option maxRecDepth 100000 in
set_option maxHeartbeats 4000000 in
theorem sRingsOf_list (o : Option Addr) (n c : Nat) (x : Nat → Nat → Int) (hn : n ≤ 1048576) (w : World) (h : PoolAt w o n x) : Calls Try.prog 31 #[poolV o n c] w fun e w' => ∃ A cp ad, e = .returned (.tuple #[.slice A (rgN n x) cp, .bool (rowB n x)]) ∧ GridL w' w.heap.size A (rgN n x) cp ad (rgL n x) ∧ Below w.heap.size w w' := by
  have H := Lib.hid h; clear h
  have E1 := Lib.hid (GridL.empty w w.heap.size (fun _ => (none, 0)) (Nat.le_refl _))
  cases g : rowB n x
  · have HV := Lib.hid (show rgL n x = [] by unfold rgL; rw [g]; rfl)
    have HN := Lib.hid (show rgN n x = 0 by unfold rgN; rw [HV.out]; rfl)
    rw [HV.out, HN.out]
    go_enter Try.func31, Try.ntmps31
    go_wp2_with fail
    go_at_call 64
    refine (l3Row_any o n c x hn _ (H.out.alloc _)).mono ?_
    rintro e w1 ⟨rfl, hb1⟩
    have HB1 := Lib.hid hb1; clear hb1
    have E2 := Lib.hid (E1.out.below HB1.out)
    have HB1 := Lib.hid (((Below.refl w.heap.size w).alloc (Nat.le_refl _) (.cells #[] 60)).trans (HB1.out.mono (by simp)))
    rw [g]
    go_wp2
    go_ret2
    exact ⟨_, 0, _, rfl, E2.out, HB1.out⟩
  · obtain ⟨n1, n6⟩ := row_le g
    have HV := Lib.hid (show rgL n x = allR n (Bt x) by unfold rgL; rw [g]; rfl)
    go_enter Try.func31, Try.ntmps31
    go_wp2_with fail
    go_at_call 64
    refine (l3Row_any o n c x hn _ (H.out.alloc _)).mono ?_
    rintro e w1 ⟨rfl, hb1⟩
    have HB1 := Lib.hid hb1; clear hb1
    have E2 := Lib.hid (E1.out.below HB1.out)
    have HB1 := Lib.hid (((Below.refl w.heap.size w).alloc (Nat.le_refl _) (.cells #[] 60)).trans (HB1.out.mono (by simp)))
    rw [g]
    clear g
    go_wp2
    go_loopw [4, 5] (fun v i wr => ∃ L : Nat, 3 ≤ L ∧ (L ≤ n + 1 ∨ L = 3) ∧ i = .int .i64 (L : Int) ∧ (∃ A mm cA ad, v = .slice A mm cA ∧ A ≠ none ∧ GridL wr w.heap.size A mm cA ad (partR n (Bt x) L)) ∧ Below w.heap.size w wr) (fun v i _ => n + 3 - (intOf i).toNat)
    case atStart => exact ⟨3, by omega, .inr rfl, rfl, ⟨_, 0, 0, _, rfl, by simp, by rw [partR_low (Nat.le_refl _)]; exact E2.out⟩, HB1.out⟩
    case round =>
      obtain ⟨L, hL3, hLn, rfl, ⟨A, mm, cA, ad, rfl, hA, hG⟩, hb⟩ := hrel
      have HA := Lib.hid hA; have HG := Lib.hid hG; have HB := Lib.hid hb
      clear hA hG hb HB1 E2 E1
      by_cases hlt : L ≤ n
      · have d0 : decide (L ≤ n) = true := by simp; omega
        go_wp2
        go_loopw [4, 6] (fun v i wr => ∃ k : Nat, k ≤ n ∧ i = .int .i64 (k : Int) ∧ (∃ A mm cA ad, v = .slice A mm cA ∧ A ≠ none ∧ GridL wr w.heap.size A mm cA ad (partR n (Bt x) L ++ (List.range k).flatMap fun i => ringsR n (Bt x) L (n + 1) [i])) ∧ Below w.heap.size w wr) (fun v i _ => n - (intOf i).toNat)
        case atStart => exact ⟨0, by omega, rfl, ⟨A, mm, cA, ad, rfl, HA.out, by rw [List.range_zero, List.flatMap_nil, List.append_nil]; exact HG.out⟩, HB.out⟩
        case round =>
          obtain ⟨k, hk, rfl, ⟨A4, m4, c4, ad4, rfl, hA4, hG4⟩, hb4⟩ := hrel
          have NA4 := Lib.hid hA4; have G4 := Lib.hid hG4; have HB4 := Lib.hid hb4
          clear hA4 hG4 hb4 HA HG HB
          by_cases hlk : k < n
          · have d1 : decide (k < n) = true := by simp; omega
            obtain ⟨Ls, hLs⟩ : ∃ Ls, Ls = partR n (Bt x) L ++ (List.range k).flatMap fun i => ringsR n (Bt x) L (n + 1) [i] := ⟨_, rfl⟩
            obtain ⟨Ms, hMs⟩ : ∃ Ms, Ms = ringsR n (Bt x) L (n + 1) [k] := ⟨_, rfl⟩
            have HLs := Lib.hid (show partR n (Bt x) L ++ (List.range (k + 1)).flatMap (fun i => ringsR n (Bt x) L (n + 1) [i]) = Ls ++ Ms by rw [range_flat, ← List.append_assoc, hLs, hMs])
            have TOT := Lib.hid (show (Ls ++ Ms).length ≤ 1000 by
              rw [← HLs.out, List.length_append]
              have h1 := partR_le (n := n) (B := Bt x) (L := L + 1) (by omega) n6
              rw [partR_next hL3, List.length_append] at h1
              have h2 := range_flat_le (fun i => ringsR n (Bt x) L (n + 1) [i]) (k := k + 1) n (by omega)
              omega)
            rw [← hLs] at G4
            have P4 := Lib.hid (H.out.below HB4.out)
            have AL4 := Lib.hid (show Below wr.heap.size wr (wr.alloc (.cells #[.int .i64 (k : Int)] 3)) from (Below.refl _ _).alloc (Nat.le_refl _) _)
            obtain ⟨a1, rfl, _⟩ := dice6 P4.out hlk
            have LR := Lib.hid (l3Rings_any x n c (some a1) n6 L (by omega) (n + 1) [k] 1 rfl (Path.one hlk) (by omega) (by rw [← hMs]; have := TOT.out; rw [List.length_append] at this; omega) (wr.alloc (.cells #[.int .i64 (k : Int)] 3)) (some ⟨wr.heap.size, 0, none⟩) 1 wr.heap.size (P4.out.below AL4.out) (Ints.single wr k (Nat.le_refl _)))
            rw [← hMs] at LR
            clear hLs hMs
            go_wp2_with fail
            go_at_call 65
            refine LR.out.mono ?_
            rintro e w7 ⟨A7, m7, c7, ad7, rfl, hA7, hG7, hb7⟩
            have NA7 := Lib.hid hA7
            have G7 := Lib.hid hG7
            have G7o := Lib.hid ((G4.out.below AL4.out).below hb7)
            have HB7 := Lib.hid ((HB4.out.alloc HB4.out.size (.cells #[.int .i64 (k : Int)] 3)).trans (hb7.mono (by have := HB4.out.size; simp; omega)))
            have SEP := Lib.hid (show ∀ i, i < m4 → ∀ j, j < m7 → (rowSl ad4 (gLen Ls) i).ownBlock = none ∨ (rowSl ad4 (gLen Ls) i).ownBlock ≠ (rowSl ad7 (gLen Ms) j).ownBlock from fun i hi j hj => by
              cases e : (rowSl ad4 (gLen Ls) i).ownBlock with
              | none => exact .inl rfl
              | some g => exact .inr fun e2 => by
                            have := (G4.out.2.lt hi e).2
                            have := (G7.out.2.lt hj e2.symm).1
                            simp at this
                            omega)
            have Y7 := Lib.hid (show m4 + m7 ≤ 1000000 by have := TOT.out; rw [List.length_append, G4.out.1, G7.out.1] at this; omega)
            have Z7 := Lib.hid (show w.heap.size ≤ (wr.alloc (.cells #[.int .i64 (k : Int)] 3)).heap.size by have := HB4.out.size; simp; omega)
            clear hA7 hG7 hb7
            go_wp2_with (first | (((with_reducible apply wpList_append_gls); (case hgd => rfl); (case ho => rfl); (case hs => rfl); (case hx => rfl); (case hS => exact Try.underlying47); (case hA => exact NA4.out); (case hA2 => exact NA7.out); (case hgrid => exact G7o.out); (case hrows => exact G7.out); (case hsep => exact SEP.out); (case hBB => exact Z7.out); (case hm => exact Y7.out); (case hB => exact HB7.out.size); intro A8 c8 w8 ad8 hG8 hg8 hn8)) | fail)
            have G8 := Lib.hid hG8; have NA8 := Lib.hid hn8
            have HB8 := Lib.hid (below_grown HB7.out hg8 (fun g e => (G7o.out.2.outer_lt e).1) HB7.out.size)
            clear hG8 hg8 hn8
            go_roundw
            case rel => exact ⟨k + 1, by omega, by go_num, ⟨A8, m4 + m7, c8, ad8, rfl, NA8.out, by rw [HLs.out]; exact G8.out⟩, HB8.out⟩
            case measure => simp [intOf]; omega
          · have d1 : decide (k < n) = false := by simp; omega
            have HK := Lib.hid (show k = n by omega)
            go_wp2
            go_roundw
            case rel => exact ⟨L + 1, by omega, .inl (by omega), by go_num, ⟨A4, m4, c4, ad4, rfl, NA4.out, by have e := congrArg (fun t => partR n (Bt x) L ++ (List.range t).flatMap fun i => ringsR n (Bt x) L (n + 1) [i]) HK.out; rw [partR_next hL3, ← e]; exact G4.out⟩, HB4.out⟩
            case measure => simp [intOf]; omega
      · have d0 : decide (L ≤ n) = false := by simp; omega
        have HE := Lib.hid (show partR n (Bt x) L = rgL n x by
          rw [HV.out]
          by_cases h3 : n + 1 ≤ 3
          · have e : L = 3 := by omega
            rw [e, partR_low (Nat.le_refl _), ← partR_all, partR_low h3]
          · have e : L = n + 1 := by omega
            rw [e, partR_all])
        have HM := Lib.hid (show mm = rgN n x by unfold rgN; rw [← HE.out]; exact HG.out.1.symm)
        go_wp2
        go_ret2
        exact ⟨A, cA, ad, by rw [← HM.out]; rfl, by rw [← HE.out, ← HM.out]; exact HG.out, HB.out⟩
theorem rgX (n : Nat) (x : Nat → Nat → Int) : rgN n x ≤ 1000 ∧ ∀ i, i < rgN n x → gLen (rgL n x) i ≤ 1000 := by
  cases g : rowB n x
  · have e : rgL n x = [] := by unfold rgL; rw [g]; rfl
    unfold rgN
    rw [e]
    exact ⟨by simp, fun i _ => by simp [gLen]⟩
  · have e : rgL n x = allR n (Bt x) := by unfold rgL; rw [g]; rfl
    obtain ⟨_, n6⟩ := row_le g
    unfold rgN
    rw [e]
    refine ⟨allR_le _ n6, fun i hi => ?_⟩
    unfold gLen
    rw [List.getD_eq_getElem?_getD, List.getElem?_eq_getElem hi]
    have := allR_len (List.getElem_mem hi)
    simp only [Option.getD_some]
    omega
theorem sRingsOf_any (o : Option Addr) (n c : Nat) (x : Nat → Nat → Int) (hn : n ≤ 1048576) (w : World) (h : PoolAt w o n x) : Calls Try.prog 31 #[poolV o n c] w fun e w' => ∃ A cp ad, e = .returned (.tuple #[.slice A (rgN n x) cp, .bool (rowB n x)]) ∧ Grid w' w.heap.size A (rgN n x) cp ad (gLen (rgL n x)) (gF (rgL n x)) ∧ Below w.heap.size w w' :=
  (sRingsOf_list o n c x hn w h).mono fun _ _ ⟨A, cp, ad, he, hG, hb⟩ => ⟨A, cp, ad, he, hG.2, hb⟩
theorem iRingsOf_any (o : Option Addr) (n c : Nat) (x : Nat → Nat → Int) (hn : n ≤ 1048576) (w : World) (h : PoolAt w o n x) : Calls Try.prog 32 #[poolV o n c] w fun e w' => ∃ A cp ad, e = .returned (.tuple #[.slice A (rgN n x) cp, .bool (rowB n x)]) ∧ Grid w' w.heap.size A (rgN n x) cp ad (gLen (rgL n x)) (gF (rgL n x)) ∧ Below w.heap.size w w' :=
  (iRingsOf_list o n c x hn w h).mono fun _ _ ⟨A, cp, ad, he, hG, hb⟩ => ⟨A, cp, ad, he, hG.2, hb⟩
end Go.Proofs.Ytbfhfadfjgfmaaa
