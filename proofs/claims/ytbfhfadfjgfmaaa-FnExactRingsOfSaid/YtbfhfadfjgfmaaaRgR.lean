/- The reference's l3Rings and RingsOf. -/
import Derived.Test.YtbfhfadfjgfmaaaRgT
set_option linter.unusedVariables false
set_option linter.unusedSimpArgs false
set_option linter.unusedSectionVars false
namespace Go.Proofs.Ytbfhfadfjgfmaaa
open Go.RowKit
set_option maxRecDepth 100000 in
set_option maxHeartbeats 8000000 in
theorem l3Rings_any (x : Nat → Nat → Int) (n c : Nat) (o : Option Addr) (n6 : n ≤ 6) (L : Nat) (hL : L ≤ 1000) :
    ∀ (d : Nat) (p : List Nat) (m : Nat), p.length = m → Path n p → n + 1 ≤ m + d → (ringsR n (Bt x) L d p).length ≤ 1000 →
    ∀ (w : World) (po : Option Addr) (cp B : Nat), PoolAt w o n x → Ints w B po m cp (lF p) →
      Calls Try.prog 65 #[poolV o n c, .slice po m cp, .int .i64 (L : Int)] w fun e w' => ∃ A mm cA ad, e = .returned (.slice A mm cA) ∧ A ≠ none ∧ GridL w' w.heap.size A mm cA ad (ringsR n (Bt x) L d p) ∧ Below w.heap.size w w' := by
  intro d
  induction d with
  | zero =>
    intro p m hm hp hd
    have := hp.len
    omega
  | succ d ih =>
    intro p m hm hp hd htot w po cp B hP hI
    have m6 : m ≤ 6 := by have := hp.len; omega
    have m1 : 1 ≤ m := by have := hp.pos; omega
    obtain ⟨gp, hgp, _, _, c00⟩ := hI.cell (k := 0) (by omega)
    subst hgp
    obtain ⟨h0, hh0⟩ : ∃ h0, h0 = qF p 0 := ⟨_, rfl⟩
    have h0n : h0 < n := hh0 ▸ hp.at (by omega)
    have HH0 := Lib.hid (show h0 + 1 = p.headD 0 + 1 by rw [head_at, hh0])
    have HH1 := Lib.hid hh0
    obtain ⟨l, hl⟩ : ∃ l, l = qF p (m - 1) := ⟨_, rfl⟩
    have LN : l < n := hl ▸ hp.at (by omega)
    have HL := Lib.hid hl
    obtain ⟨l1, hl1⟩ : ∃ l1, l1 = m - 1 := ⟨_, rfl⟩
    have HL1 := Lib.hid (show l1 = m - 1 ∧ l1 < m by omega)
    have HM := Lib.hid hm
    have PT := Lib.hid hp
    have P0 := Lib.hid hP; have IP0 := Lib.hid hI
    have HT := Lib.hid htot
    have EQH := Lib.hid (show Bt x (p.getLastD 0) (p.headD 0) = beatB (x l) (x h0) by rw [head_at, last_at, hm, ← hl, ← hh0]; rfl)
    have AL := Lib.hid (show Below w.heap.size w (w.alloc (.cells #[] 60)) from (Below.refl _ _).alloc (Nat.le_refl _) _)
    have I1 := Lib.hid (IP0.out.below AL.out)
    have P1 := Lib.hid (P0.out.below AL.out)
    have E1 := Lib.hid (GridL.empty w w.heap.size (fun _ => (none, 0)) (Nat.le_refl _))
    obtain ⟨a1, rfl, hd1⟩ := dice6 P1.out h0n
    have HD1 := Lib.hid hd1
    clear hh0 hl hl1 hm hp hP hI htot c00 hd1
    have cL : (w.alloc (.cells #[] 60)).cell? ⟨gp, l1, none⟩ = some (.int .i64 (l : Int)) := by rw [ints_cell I1.out (HL1.out.2)]; unfold lF; rw [HL.out, HL1.out.1]
    have cH : (w.alloc (.cells #[] 60)).cell? ⟨gp, 0, none⟩ = some (.int .i64 (h0 : Int)) := by rw [ints_cell I1.out (by omega)]; unfold lF; rw [HH1.out]
    have CH := Lib.hid cH
    have e1 : (m : Int) - 1 = (l1 : Int) := by have := HL1.out; omega
    by_cases hmL : m = L
    · have d0 : ((m : Int) == (L : Int)) = true := by simp; omega
      have HML := Lib.hid hmL
      clear hmL
      cases gb : beatB (x l) (x h0)
      · have ER := Lib.hid (show ringsR n (Bt x) L (d + 1) p = [] by simp only [ringsR]; rw [if_pos (by rw [HM.out, HML.out]), EQH.out, gb]; rfl)
        rw [ER.out]
        go_enter Try.func65, Try.ntmps65
        go_wp2
        clear e1
        refine wp_region_grown_lit (by kernel_rfl) (by kernel_rfl) ?_
        repeat (first | go_big_quiet_skip | (go_big_quiet_want; (first | (refine grown_load_pool _ rfl (HD1.out) rfl ?_ ?_; omega; simp only [Act.put, List.setIfInBounds_toArray, List.set_cons_succ, List.set_cons_zero]; go_big_quiet_on) | (refine grown_load_int 3 _ rfl rfl (CH.out) Try.isAgg3 ?_; simp only [Act.put, List.setIfInBounds_toArray, List.set_cons_succ, List.set_cons_zero]; go_big_quiet_on) | (go_big_quiet_op; (first | go_big_quiet_on | (refine ⟨_, fun _ _ => rfl, ?_⟩; go_big_quiet_on) | (apply Exists.intro; refine ⟨fun _ hC => ?_, ?_⟩; (first | (go_at_call 101; exact grown_of hC (l3Beats_any _ _ _))); go_big_quiet_on))))))
        refine wpQuiet_nil ?_
        intro wg hg
        have HG := Lib.hid hg.below
        clear hg
        rw [gb]
        go_wp2
        go_ret
        exact ⟨_, 0, _, _, rfl, by simp, E1.out.below HG.out, AL.out.trans (HG.out.mono (by simp))⟩
      · have ER := Lib.hid (show ringsR n (Bt x) L (d + 1) p = [p] by simp only [ringsR]; rw [if_pos (by rw [HM.out, HML.out]), EQH.out, gb]; rfl)
        rw [ER.out]
        go_enter Try.func65, Try.ntmps65
        go_wp2
        clear e1
        refine wp_region_grown_lit (by kernel_rfl) (by kernel_rfl) ?_
        repeat (first | go_big_quiet_skip | (go_big_quiet_want; (first | (refine grown_load_pool _ rfl (HD1.out) rfl ?_ ?_; omega; simp only [Act.put, List.setIfInBounds_toArray, List.set_cons_succ, List.set_cons_zero]; go_big_quiet_on) | (refine grown_load_int 3 _ rfl rfl (CH.out) Try.isAgg3 ?_; simp only [Act.put, List.setIfInBounds_toArray, List.set_cons_succ, List.set_cons_zero]; go_big_quiet_on) | (go_big_quiet_op; (first | go_big_quiet_on | (refine ⟨_, fun _ _ => rfl, ?_⟩; go_big_quiet_on) | (apply Exists.intro; refine ⟨fun _ hC => ?_, ?_⟩; (first | (go_at_call 101; exact grown_of hC (l3Beats_any _ _ _))); go_big_quiet_on))))))
        refine wpQuiet_nil ?_
        intro wg hg
        have HG := Lib.hid hg.below
        clear hg
        have HB1 := Lib.hid (show Below w.heap.size w wg from AL.out.trans (HG.out.mono (by simp)))
        rw [gb]
        go_wp2_with fail
        go_at_call 102
        refine (l1Own_any ⟨gp, 0, none⟩ m cp (lF p) (by omega) _ (fun j hj => by rw [addr_add, Nat.zero_add]; exact ints_cell (I1.out.below HG.out) hj)).mono ?_
        rintro e w5 ⟨o5, c5, rfl, hI5, hb5⟩
        have HB5 := Lib.hid (HB1.out.trans (hb5.mono HB1.out.size))
        have AL5 := Lib.hid (show Below w5.heap.size w5 (w5.alloc (.cells #[.slice o5 m c5] 60)) from (Below.refl _ _).alloc (Nat.le_refl _) _)
        have G5 := Lib.hid (((E1.out.below HG.out).below hb5).below AL5.out)
        have I5 := Lib.hid ((hI5.base HB1.out.size).below AL5.out)
        have Z5 := Lib.hid (show (w5.alloc (.cells #[.slice o5 m c5] 60)).cell? ⟨w5.heap.size, 0, none⟩ = some (.slice o5 m c5) by simp)
        have Y5 := Lib.hid (show w.heap.size ≤ (w5.alloc (.cells #[.slice o5 m c5] 60)).heap.size by have := HB5.out.size; simp; omega)
        clear hI5 hb5
        go_wp2_with (first | (((with_reducible apply wpList_append_gl); (case hgd => rfl); (case ho => rfl); (case hs => rfl); (case hx => rfl); (case hS => exact Try.underlying47); (case hgrid => exact G5.out); (case hz => exact Z5.out); (case hn => exact HM.out); (case hrow => exact I5.out); (case hsep => exact fun i hi => absurd hi (by omega)); (case hm => exact Nat.zero_le _); (case hB => exact Y5.out); intro A3 c3 w6 ad3 hG3 hg3 hn3)) | fail)
        have HG3 := Lib.hid hG3; have HN3 := Lib.hid hn3
        have HB6 := Lib.hid (below_grown (HB5.out.trans (AL5.out.mono HB5.out.size)) hg3 (fun g e => (G5.out.2.outer_lt e).1) Y5.out)
        clear hG3 hg3 hn3
        go_ret
        exact ⟨A3, 1, c3, ad3, rfl, HN3.out, HG3.out, HB6.out⟩
    · have d0 : ((m : Int) == (L : Int)) = false := by simp; omega
      have ER := Lib.hid (show ringsR n (Bt x) L (d + 1) p = upTo (Bt x) p (fun j => ringsR n (Bt x) L d (p ++ [j])) n by simp only [ringsR]; rw [if_neg (by rw [HM.out]; exact hmL)]; rfl)
      have HML := Lib.hid hmL
      clear hmL
      go_enter Try.func65, Try.ntmps65
      go_wp2
      go_loopw [7, 9] (fun v i wr => ∃ k : Nat, h0 + 1 ≤ k ∧ k ≤ n ∧ i = .int .i64 (k : Int) ∧ (∃ A mm cA ad, v = .slice A mm cA ∧ A ≠ none ∧ GridL wr w.heap.size A mm cA ad (upTo (Bt x) p (fun j => ringsR n (Bt x) L d (p ++ [j])) k)) ∧ Below w.heap.size w wr) (fun v i _ => n - (intOf i).toNat)
      case atStart => exact ⟨h0 + 1, by omega, by omega, by go_num, ⟨_, 0, 0, _, rfl, by simp, by rw [upTo_start HH0.out]; exact E1.out⟩, AL.out⟩
      case round =>
        obtain ⟨k, hk0, hk, rfl, ⟨A4, m4, c4, ad4, rfl, hA4, hG4⟩, hb4⟩ := hrel
        have G4 := Lib.hid hG4; have HB4 := Lib.hid hb4; have NA4 := Lib.hid hA4
        clear hG4 hb4 hA4 cL cH e1
        have P4 := Lib.hid (P0.out.below HB4.out)
        have IP4 := Lib.hid (IP0.out.below HB4.out)
        by_cases hlt : k < n
        · have d1 : decide (k < n) = true := by simp; omega
          have CT := fun w h => l1HasQ_any (qF p) m k (by omega) (by omega) (some ⟨gp, 0, none⟩) cp B w h
          obtain ⟨a2, h2, hd⟩ := dice6 P4.out hlt
          obtain rfl : a1 = a2 := Option.some.inj h2
          have HD := Lib.hid hd; clear hd h2
          cases hc : allB (notAt (qF p) k) m
          · rw [hc] at CT
            have CT := Lib.hid CT
            have HC := Lib.hid (show nextC (Bt x) p k = false from nextC_has (by rw [HM.out]; exact hc))
            clear hc
            go_wp2
            refine wp_region_grown_lit (by kernel_rfl) (by kernel_rfl) ?_
            repeat (first | go_big_quiet_skip | (go_big_quiet_want; (first | (go_big_quiet_op; (first | go_big_quiet_on | (refine ⟨_, fun _ _ => rfl, ?_⟩; go_big_quiet_on) | (apply Exists.intro; refine ⟨fun _ hC => ?_, ?_⟩; (first | (go_at_call 103; exact grown_same hC (CT.out _ (IP4.out.below hC.below)))); go_big_quiet_on))))))
            refine wpQuiet_nil ?_
            intro wg hg
            have HB5 := Lib.hid (HB4.out.trans (hg.below.mono HB4.out.size))
            have G5 := Lib.hid (G4.out.below hg.below)
            clear hg
            go_wp2
            go_roundw
            case rel => exact ⟨k + 1, by omega, by omega, by go_num, ⟨A4, m4, c4, ad4, rfl, NA4.out, by rw [upTo_no HC.out]; exact G5.out⟩, HB5.out⟩
            case measure => simp [intOf]; omega
          · rw [hc] at CT
            have CT := Lib.hid CT
            have HN := Lib.hid (show nextC (Bt x) p k = Bt x l k by rw [nextC_free (by rw [HM.out]; exact hc) (by rw [← HH1.out]; omega), HM.out, ← HL.out])
            clear hc
            have BT := fun w => l3Beats_any (x l) (x k) w
            cases gb : beatB (x l) (x k)
            · rw [gb] at BT
              have BT := Lib.hid BT
              have HC := Lib.hid (show nextC (Bt x) p k = false by rw [HN.out]; exact gb)
              clear gb
              go_wp2
              refine wp_region_grown_lit (by kernel_rfl) (by kernel_rfl) ?_
              repeat (first | go_big_quiet_skip | (go_big_quiet_want; (first | (refine grown_load_pool _ rfl (HD.out) rfl ?_ ?_; omega; simp only [Act.put, List.setIfInBounds_toArray, List.set_cons_succ, List.set_cons_zero]; go_big_quiet_on) | (go_big_quiet_op; (first | go_big_quiet_on | (refine ⟨_, fun _ _ => rfl, ?_⟩; go_big_quiet_on) | (apply Exists.intro; refine ⟨fun _ hC => ?_, ?_⟩; (first | (go_at_call 101; exact grown_of hC (BT.out _)) | (go_at_call 103; exact grown_same hC (CT.out _ (IP4.out.below hC.below)))); go_big_quiet_on))))))
              refine wpQuiet_nil ?_
              intro wg hg
              have HB5 := Lib.hid (HB4.out.trans (hg.below.mono HB4.out.size))
              have G5 := Lib.hid (G4.out.below hg.below)
              clear hg
              go_wp2
              go_roundw
              case rel => exact ⟨k + 1, by omega, by omega, by go_num, ⟨A4, m4, c4, ad4, rfl, NA4.out, by rw [upTo_no HC.out]; exact G5.out⟩, HB5.out⟩
              case measure => simp [intOf]; omega
            · rw [gb] at BT
              have BT := Lib.hid BT
              have HC := Lib.hid (show nextC (Bt x) p k = true by rw [HN.out]; exact gb)
              clear gb
              go_wp2
              refine wp_region_grown_lit (by kernel_rfl) (by kernel_rfl) ?_
              repeat (first | go_big_quiet_skip | (go_big_quiet_want; (first | (refine grown_load_pool _ rfl (HD.out) rfl ?_ ?_; omega; simp only [Act.put, List.setIfInBounds_toArray, List.set_cons_succ, List.set_cons_zero]; go_big_quiet_on) | (go_big_quiet_op; (first | go_big_quiet_on | (refine ⟨_, fun _ _ => rfl, ?_⟩; go_big_quiet_on) | (apply Exists.intro; refine ⟨fun _ hC => ?_, ?_⟩; (first | (go_at_call 101; exact grown_of hC (BT.out _)) | (go_at_call 103; exact grown_same hC (CT.out _ (IP4.out.below hC.below)))); go_big_quiet_on))))))
              refine wpQuiet_nil ?_
              intro wg hg
              have HB5 := Lib.hid (HB4.out.trans (hg.below.mono HB4.out.size))
              have G5 := Lib.hid (G4.out.below hg.below)
              have P5 := Lib.hid (P4.out.below hg.below)
              have IP5 := Lib.hid (IP4.out.below hg.below)
              clear hg P4 IP4 HD G4
              have HK := Lib.hid (nextC_mem hlt HC.out)
              have HLT := Lib.hid (fun j (hj : j < m) => show lF p j = lF (p ++ [k]) j by unfold lF; rw [show (p ++ [k]).getD j 0 = p.getD j 0 from qF_left (by rw [HM.out]; exact hj)])
              have HAT := Lib.hid (show lF (p ++ [k]) m = (k : Int) by unfold lF; rw [← HM.out, show (p ++ [k]).getD p.length 0 = k from qF_last p k])
              obtain ⟨Ls, hLs⟩ : ∃ Ls, Ls = upTo (Bt x) p (fun j => ringsR n (Bt x) L d (p ++ [j])) k := ⟨_, rfl⟩
              obtain ⟨Ms, hMs⟩ : ∃ Ms, Ms = ringsR n (Bt x) L d (p ++ [k]) := ⟨_, rfl⟩
              have HLs := Lib.hid (show upTo (Bt x) p (fun j => ringsR n (Bt x) L d (p ++ [j])) (k + 1) = Ls ++ Ms by rw [upTo_yes HC.out, hLs, hMs])
              have TOT := Lib.hid (show (Ls ++ Ms).length ≤ 1000 by rw [← HLs.out]; have := HT.out; rw [ER.out] at this; exact Nat.le_trans (upTo_len n (by omega)) this)
              rw [← hLs] at G5
              have IH := Lib.hid (fun w po cp B hP hI => ih (p ++ [k]) (m + 1) (by simp [HM.out]) (PT.out.next HK.out) (by omega) (by rw [← hMs]; have := TOT.out; rw [List.length_append] at this; omega) w po cp B hP hI)
              rw [← hMs] at IH
              clear hLs hMs
              go_wp2_with fail
              go_at_call 102
              refine (l1Own_any ⟨gp, 0, none⟩ m cp (lF p) (by omega) _ (fun j hj => by rw [addr_add, Nat.zero_add]; exact ints_cell IP5.out hj)).mono ?_
              rintro e w5 ⟨o5, c5, rfl, hI5, hb5⟩
              have AL5 := Lib.hid (show Below w5.heap.size w5 (w5.alloc (.cells #[.int .i64 (k : Int)] 3)) from (Below.refl _ _).alloc (Nat.le_refl _) _)
              have I5 := Lib.hid ((hI5.congr (fun j hj => HLT.out j hj)).below AL5.out)
              have HG5 := Lib.hid (hb5.trans (AL5.out.mono hb5.size))
              have Z5 := Lib.hid (show (w5.alloc (.cells #[.int .i64 (k : Int)] 3)).cell? ⟨w5.heap.size, 0, none⟩ = some (.int .i64 (k : Int)) by simp)
              have Y5 := Lib.hid (show m ≤ 1000000 by omega)
              clear hI5 hb5
              go_wp2_with (first | (((with_reducible apply (wpList_append_int (f := lF (p ++ [k])))); (case hgd => rfl); (case ho => rfl); (case hs => rfl); (case hx => rfl); (case hS => exact Try.underlying60); (case hown => exact I5.out); (case hz => exact Z5.out); (case hf => exact HAT.out); (case hm => exact Y5.out); (case hB => exact HG5.out.size); intro A6 c6 w6 hI6 hg6)) | fail)
              have HG6 := Lib.hid (below_grown HG5.out hg6 (fun g e => (World.ownsRow.lt I5.out g e).1) HG5.out.size)
              have I6 := Lib.hid hI6
              have P6 := Lib.hid (P5.out.below HG6.out)
              have G6 := Lib.hid (G5.out.below HG6.out)
              clear hI6 hg6
              go_wp2_with fail
              go_at_call 65
              refine (IH.out _ _ _ _ P6.out I6.out).mono ?_
              rintro e w7 ⟨A7, m7, c7, ad7, rfl, hA7, hG7, hb7⟩
              have NA7 := Lib.hid hA7
              have G7 := Lib.hid hG7
              have G7o := Lib.hid (G6.out.below hb7)
              have HB7 := Lib.hid (((HB5.out.trans (HG6.out.mono HB5.out.size))).trans (hb7.mono (by have := HB5.out.size; have := HG6.out.size; omega)))
              have SEP := Lib.hid (show ∀ i, i < m4 → ∀ j, j < m7 → (rowSl ad4 (gLen Ls) i).ownBlock = none ∨ (rowSl ad4 (gLen Ls) i).ownBlock ≠ (rowSl ad7 (gLen Ms) j).ownBlock from fun i hi j hj => by
                cases e : (rowSl ad4 (gLen Ls) i).ownBlock with
                | none => exact .inl rfl
                | some g => exact .inr fun e2 => by
                              have := (G6.out.2.lt hi e).2
                              have := (G7.out.2.lt hj e2.symm).1
                              omega)
              have Y7 := Lib.hid (show m4 + m7 ≤ 1000000 by have := TOT.out; rw [List.length_append, G6.out.1, G7.out.1] at this; omega)
              have Z7 := Lib.hid (show w.heap.size ≤ w6.heap.size by have := HB5.out.size; have := HG6.out.size; omega)
              clear hA7 hG7 hb7
              go_wp2_with (first | (((with_reducible apply wpList_append_gls); (case hgd => rfl); (case ho => rfl); (case hs => rfl); (case hx => rfl); (case hS => exact Try.underlying47); (case hA => exact NA4.out); (case hA2 => exact NA7.out); (case hgrid => exact G7o.out); (case hrows => exact G7.out); (case hsep => exact SEP.out); (case hBB => exact Z7.out); (case hm => exact Y7.out); (case hB => exact HB7.out.size); intro A8 c8 w8 ad8 hG8 hg8 hn8)) | fail)
              have G8 := Lib.hid hG8; have NA8 := Lib.hid hn8
              have HB8 := Lib.hid (below_grown HB7.out hg8 (fun g e => (G7o.out.2.outer_lt e).1) HB7.out.size)
              clear hG8 hg8 hn8
              go_roundw
              case rel => exact ⟨k + 1, by omega, by omega, by go_num, ⟨A8, m4 + m7, c8, ad8, rfl, NA8.out, by rw [HLs.out]; exact G8.out⟩, HB8.out⟩
              case measure => simp [intOf]; omega
        · have d1 : decide (k < n) = false := by simp; omega
          have HK := Lib.hid (show k = n by omega)
          go_wp2
          go_ret
          exact ⟨A4, m4, c4, ad4, rfl, NA4.out, by have e := congrArg (fun t => upTo (Bt x) p (fun j => ringsR n (Bt x) L d (p ++ [j])) t) HK.out; rw [ER.out, ← e]; exact G4.out, HB4.out⟩
end Go.Proofs.Ytbfhfadfjgfmaaa
