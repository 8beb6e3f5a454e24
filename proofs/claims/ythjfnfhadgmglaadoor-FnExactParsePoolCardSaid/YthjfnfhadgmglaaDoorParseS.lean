/- ParsePool, both sides. -/
import Derived.Test.YthjfnfhadgmglaaDoorParseP
import Derived.Test.YthjfnfhadgmglaaDoorReadS
import Derived.Test.YthjfnfhadgmglaaDoorSplitS
import Derived.Test.YthjfnfhadgmglaaDoorSlice1
set_option linter.unusedVariables false
set_option linter.unusedSimpArgs false
set_option linter.unusedSectionVars false
namespace Go.Proofs.YthjfnfhadgmglaaDoor
open Go.RowKit
/-- What the library's variables say. -/
structure LibOk (m : Int) (w : World) : Prop where
  av : AtoiVars w
  ml : w.cell? ⟨0, 0, none⟩ = some (.int .i64 m)
theorem LibOk.below {m : Int} {w w' : World} (h : LibOk m w) (hb : Below w.heap.size w w') : LibOk m w' := ⟨h.av.below hb, cell_keep h.ml hb⟩
/-- The library's Split at one byte. -/
theorem split_any (s : ByteArray) (c : UInt8) (hs : s.size ≤ 1048576) (m : Int) (w : World) (h : LibOk m w) : Calls Tryd.prog 37 #[.string s, .string ⟨#[c]⟩] w fun e w' => ∃ A cp, e = .returned (.slice A (parts c s).length cp) ∧ Strs w' w.heap.size A (parts c s).length cp (atS (parts c s)) ∧ Below w.heap.size w w' := by
  refine (Tryd.strings_Split s ⟨#[c]⟩ m w (by omega) h.ml (Nat.le_refl 1)).mono ?_
  rintro e w' ⟨rfl, rfl⟩
  rw [parts_lib, ← parts_len]
  refine ⟨_, _, rfl, ?_, (Below.refl _ _).alloc (Nat.le_refl _) _⟩
  exact Strs.ofBlk (F := fun i => .string (atS (parts c s) i)) (Nat.le_refl _) (Nat.le_refl _) (by have := parts_len_le c s; unfold maxLen; omega) (Blk.newAt rfl (strs_row _)) (fun i hi => rfl)
theorem okT_len_no {t : ByteArray} (h : (parts 46 t).length ≠ 6) : okT t = false := by unfold okT; rw [decide_eq_false h]; rfl
theorem okT_rd_no {t : ByteArray} {k : Nat} (hk : k < 6) (h : rdB (atS (parts 46 t) k) = false) : okT t = false := by unfold okT; rw [allB_false hk h, Bool.and_false]
theorem okT_yes {t : ByteArray} (h : (parts 46 t).length = 6) (h2 : ∀ k, k < 6 → rdB (atS (parts 46 t) k) = true) : okT t = true := by unfold okT; rw [decide_eq_true h, (allB_iff _ _).2 h2]; rfl
set_option maxRecDepth 100000 in
set_option maxHeartbeats 4000000 in
theorem readDie_any (t : ByteArray) (ht : t.size ≤ 1048576) (m : Int) (w : World) (h : LibOk m w) : Calls Tryd.prog 52 #[.string t] w fun e w' => ∃ d : Nat → Int, e = .returned (.tuple #[dieV d, .bool (okD t)]) ∧ (okD t = true → ∀ j, j < 6 → d j = fd t j) ∧ Below w.heap.size w w' := by
  have HL := Lib.hid h; clear h
  have HSP := Lib.hid (fun w h => split_any t 46 ht m w h)
  obtain ⟨L, hL⟩ : ∃ L, L = (parts 46 t).length := ⟨_, rfl⟩
  obtain ⟨f, hf⟩ : ∃ f, f = atS (parts 46 t) := ⟨_, rfl⟩
  rw [← hL, ← hf] at HSP
  have HLE := Lib.hid hL
  have HFE := Lib.hid hf
  have HLB := Lib.hid (show L ≤ 2000000 by have := parts_len_le 46 t; omega)
  clear hL hf
  by_cases h6 : L = 6
  · subst h6
    have HFS := Lib.hid (show ∀ k, k < 6 → (f k).size ≤ 1048576 from fun k hk => by have := face_size t (i := k) (by rw [← HLE.out]; exact hk); rw [HFE.out]; omega)
    go_enter Tryd.func52, Tryd.ntmps52
    go_wp2_with (first | (refine wpList_alloc_blk rfl 57 rfl zero6 ?_) | fail)
    generalize hW0 : (w.alloc (.cells (row 6 (I fun _ => 0)) 57)).alloc (.cells (row 6 (I fun _ => 0)) 57) = W0
    have R0 := Lib.hid (show Blk W0 w.heap.size 6 57 (I fun _ => 0) from hW0 ▸ (Blk.new _ _ _ _).alloc _)
    have D0 := Lib.hid (show Blk W0 (w.heap.size + 1) 6 57 (I fun _ => 0) from hW0 ▸ Blk.newS (by simp))
    have HB0 := Lib.hid (show Below w.heap.size w W0 from hW0 ▸ ((Below.refl _ _).alloc (by omega) _).alloc (by simp) _)
    clear hW0
    go_at_call 37
    refine (HSP.out _ (HL.out.below HB0.out)).mono ?_
    rintro e w1 ⟨A, cp, rfl, hS, hb⟩
    have S1 := Lib.hid hS
    have R1 := Lib.hid (R0.out.below hb R0.out.lt); have D1 := Lib.hid (D0.out.below hb D0.out.lt); have HB1 := Lib.hid (HB0.out.trans (hb.mono HB0.out.size))
    have Z0 := Lib.hid D0.out.lt
    clear hS hb R0 D0 HB0
    go_wp2
    go_loopw [18] (fun i wr => ∃ k : Nat, k ≤ 6 ∧ i = .int .i64 (k : Int) ∧ Blk wr w.heap.size 6 57 (I fun _ => 0) ∧ Blk wr (w.heap.size + 1) 6 57 (I fun j => if j < k then fd t j else 0) ∧ Strs wr (w.heap.size + 1) A 6 cp f ∧ Hid (∀ j, j < k → rdB (f j) = true) ∧ Below w.heap.size w wr) (fun i _ => 6 - (intOf i).toNat)
    case atStart => exact ⟨0, by omega, rfl, R1.out, D1.out.ext (fun i _ => by simp [I]), S1.out.base (by have := Z0.out; omega), (fun j hj => by omega), HB1.out⟩
    case round =>
      obtain ⟨k, hk, rfl, hR, hD, hS, HO, hb⟩ := hrel
      clear R1 D1 HB1 S1
      have R2 := Lib.hid hR; have D2 := Lib.hid hD; have S2 := Lib.hid hS; have HB2 := Lib.hid hb
      clear hR hD hS hb
      by_cases hlt : k < 6
      · have d0 : decide (k < 6) = true := by simp; omega
        have d00 : decide ((k : Int) < 6) = true := by simp; omega
        obtain ⟨g, rfl, _, _, c0⟩ := S2.out.cell hlt
        have HPI := Lib.hid (fun w h => iParseInt_any (f k) (HFS.out k hlt) w h)
        cases hr : rdB (f k)
        · rw [hr] at HPI
          have HOK := Lib.hid (show okD t = false by unfold okD; rw [okT_rd_no hlt (by rw [← HFE.out]; exact hr)]; rfl)
          clear hr
          go_wp2_with fail
          go_at_call 22
          refine (HPI.out _ (HL.out.below HB2.out).av).mono ?_
          rintro e w3 ⟨rfl, hb3⟩
          have R3 := Lib.hid (R2.out.below hb3 R2.out.lt); have D3 := Lib.hid (D2.out.below hb3 D2.out.lt); have HB3 := Lib.hid (HB2.out.trans (hb3.mono HB2.out.size))
          clear hb3 c0
          go_wp2_with (first | ((with_reducible apply wpList_load_blk); (case hw => rfl); (case ho => rfl); (case hx => rfl); (case hb => with_reducible exact D3.out); (case hu => exact Tryd.underlying57); (case hi => exact sz6)) | ((with_reducible apply wpList_store_blk); (case hw => rfl); (case ho => rfl); (case hx => rfl); (case hy => rfl); (case hb => with_reducible exact R3.out); (case hi => exact sz6); (case h1 => exact fun _ _ => rfl)) | fail)
          refine post_blk_tmp rfl (R3.out.setRow _) rfl Tryd.underlying57 sz6 rfl ⟨_, by rw [HOK.out]; rfl, (fun h => absurd (HOK.out.symm.trans h) (by decide)), below_setRow HB3.out (by (focus (first | omega | (simp; done) | (simp; omega)))) _⟩
        · rw [hr] at HPI
          have HRD := Lib.hid (show rdV (f k) = fd t k by unfold fd; rw [HFE.out])
          have HO2 := Lib.hid (show ∀ j, j < k + 1 → rdB (f j) = true from fun j hj => if e : j = k then e ▸ hr else HO.out j (by omega))
          clear hr
          go_wp2_with fail
          go_at_call 22
          refine (HPI.out _ (HL.out.below HB2.out).av).mono ?_
          rintro e w3 ⟨rfl, hb3⟩
          have R3 := Lib.hid (R2.out.below hb3 R2.out.lt); have D3 := Lib.hid (D2.out.below hb3 D2.out.lt); have HB3 := Lib.hid (HB2.out.trans (hb3.mono HB2.out.size)); have S3 := Lib.hid (S2.out.below hb3)
          clear hb3 c0
          have c1 : w3.cell? ⟨w.heap.size + 1, k, none⟩ = some (I (fun j => if j < k then fd t j else 0) k) := D3.out.cell hlt
          have f1 : w3.frozen? ⟨w.heap.size + 1, k, none⟩ = false := D3.out.free k
          go_wp2
          go_roundw
          case rel =>
            refine ⟨k + 1, by omega, by go_num, R3.out.other _ _ (by simp), (D3.out.set hlt _).ext (fun j hj => ?_), ?_, HO2.out, HB3.out.setCell (by simp) _⟩
            · simp only [upd, I]
              by_cases e : j = k
              · subst e; rw [if_pos rfl, if_pos (by omega), HRD.out]
              · rw [if_neg e]
                by_cases e2 : j < k
                · rw [if_pos e2, if_pos (by omega)]
                · rw [if_neg e2, if_neg (by omega)]
            · refine S3.out.grown (grownS_set (grownS_refl w3 (some (w.heap.size + 1))) k _) (.inr fun e => ?_)
              obtain ⟨g', F, e1, _, _, _, hbk, _⟩ := S3.out.form (by omega)
              have e2 : g' = w.heap.size + 1 := by
                rw [e1] at e
                simpa [Value.ownBlock] using e
              subst e2
              have := D3.out
              unfold Blk at this hbk
              rw [this] at hbk
              injection hbk with hbk
              injection hbk with _ hbk
              exact absurd hbk (by decide)
          case measure => simp [intOf]; omega
      · have d0 : decide (k < 6) = false := by simp; omega
        have d00 : decide ((k : Int) < 6) = false := by simp; omega
        obtain rfl : k = 6 := by omega
        have HT := Lib.hid (show okT t = true from okT_yes HLE.out.symm (fun j hj => by rw [← HFE.out]; exact HO.out j hj))
        have HOK := Lib.hid (show okD t = dieB (fd t) by unfold okD; rw [HT.out]; rfl)
        have HDI := Lib.hid (show dieB (fun j => if j < 6 then fd t j else 0) = dieB (fd t) from dieB_congr (fun j hj => by rw [if_pos hj]))
        go_wp2
        refine wp_region_grown_tail 3 (by kernel_rfl) (by kernel_rfl) ?_
        simp only [List.take_succ_cons, List.take_zero, List.drop_succ_cons, List.drop_zero]
        repeat (first | go_big_quiet_skip | (go_big_quiet_want; (first | (refine grown_load 57 _ rfl (D2.out) rfl Tryd.underlying57 sz6 ?_; simp only [Act.put, List.setIfInBounds_toArray, List.set_cons_succ, List.set_cons_zero]; go_big_quiet_on) | (go_big_quiet_op; (first | go_big_quiet_on | (refine ⟨_, fun _ _ => rfl, ?_⟩; go_big_quiet_on) | (apply Exists.intro; refine ⟨fun _ hC => ?_, ?_⟩; (first | (go_at_call 64; exact grown_of hC (isDie_any _ _))); go_big_quiet_on))))))
        refine wpQuiet_nil ?_
        intro wg hg
        have R3 := Lib.hid (R2.out.below hg.below R2.out.lt); have HB3 := Lib.hid (HB2.out.trans (hg.below.mono HB2.out.size))
        clear hg
        go_wp2_with (first | ((with_reducible apply wpList_store_blk); (case hw => rfl); (case ho => rfl); (case hx => rfl); (case hy => rfl); (case hb => with_reducible exact R3.out); (case hi => exact sz6); (case h1 => exact fun _ _ => rfl)) | fail)
        exact post_blk_tmp rfl (R3.out.setRow _) rfl Tryd.underlying57 sz6 rfl ⟨_, by rw [HOK.out, ← HDI.out]; rfl, fun _ j hj => by rw [if_pos hj], below_setRow HB3.out (by (focus (first | omega | (simp; done) | (simp; omega)))) _⟩
  · have d1 : ((L : Int) != 6) = true := by simp; omega
    have HOK := Lib.hid (show okD t = false by unfold okD; rw [okT_len_no (by rw [← HLE.out]; exact h6)]; rfl)
    go_enter Tryd.func52, Tryd.ntmps52
    go_wp2_with (first | (refine wpList_alloc_blk rfl 57 rfl zero6 ?_) | fail)
    generalize hW0 : (w.alloc (.cells (row 6 (I fun _ => 0)) 57)).alloc (.cells (row 6 (I fun _ => 0)) 57) = W0
    have R0 := Lib.hid (show Blk W0 w.heap.size 6 57 (I fun _ => 0) from hW0 ▸ (Blk.new _ _ _ _).alloc _)
    have D0 := Lib.hid (show Blk W0 (w.heap.size + 1) 6 57 (I fun _ => 0) from hW0 ▸ Blk.newS (by simp))
    have HB0 := Lib.hid (show Below w.heap.size w W0 from hW0 ▸ ((Below.refl _ _).alloc (by omega) _).alloc (by simp) _)
    clear hW0
    go_at_call 37
    refine (HSP.out _ (HL.out.below HB0.out)).mono ?_
    rintro e w1 ⟨A, cp, rfl, hS, hb⟩
    have R1 := Lib.hid (R0.out.below hb R0.out.lt); have D1 := Lib.hid (D0.out.below hb D0.out.lt); have HB1 := Lib.hid (HB0.out.trans (hb.mono HB0.out.size))
    clear hS hb R0 D0 HB0
    go_wp2_with (first | ((with_reducible apply wpList_load_blk); (case hw => rfl); (case ho => rfl); (case hx => rfl); (case hb => with_reducible exact D1.out); (case hu => exact Tryd.underlying57); (case hi => exact sz6)) | ((with_reducible apply wpList_store_blk); (case hw => rfl); (case ho => rfl); (case hx => rfl); (case hy => rfl); (case hb => with_reducible exact R1.out); (case hi => exact sz6); (case h1 => exact fun _ _ => rfl)) | fail)
    refine post_blk_tmp rfl (R1.out.setRow _) rfl Tryd.underlying57 sz6 rfl ⟨_, by rw [HOK.out]; rfl, (fun h => absurd (HOK.out.symm.trans h) (by decide)), below_setRow HB1.out (by (focus (first | omega | (simp; done) | (simp; omega)))) _⟩
end Go.Proofs.YthjfnfhadgmglaaDoor
