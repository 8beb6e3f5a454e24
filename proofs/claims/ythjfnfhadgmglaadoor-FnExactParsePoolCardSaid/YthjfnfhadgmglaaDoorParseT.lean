/- ParsePool, the program's side. -/
import Derived.Test.YthjfnfhadgmglaaDoorParseS
set_option linter.unusedVariables false
set_option linter.unusedSimpArgs false
set_option linter.unusedSectionVars false
namespace Go.Proofs.YthjfnfhadgmglaaDoor
open Go.RowKit
/-- append(out, die), out of the call's own. -/
theorem wpList_append_die {ops : Array Oper} {rest : List Oper} {o : Oper} {a : Act} {w : World} {Q : Exit → Act → World → Prop} (hgd : o.guard = none) {s y : Operand} {S : TypeId} (hS : Tryd.prog.underlying S = some (.slice 57))
    (ho : o.op = .call { callee := .builtin .append, args := #[s, y], argTypes := #[S, S] }) {B m c g : Nat} {A : Option Addr} {f z : Nat → Int} (hs : a.eval s = .slice A m c) (hx : a.eval y = .slice (some ⟨g, 0, none⟩) 1 1)
    (hz : Blk w g 6 57 (I z)) (hf : ∀ j, j < 6 → f (m * 6 + j) = z j) (hown : Arrs w 57 6 B A m c f) (hm : m ≤ 1000000) (hB : B ≤ w.heap.size)
    (h : ∀ A' c' w', Arrs w' 57 6 B A' (m + 1) c' f → w.grownBy w' (Value.ownBlock (.slice A m c)) → wpList Tryd.prog ops Q rest (a.put o.dst (.slice A' (m + 1) c')) w') : wpList Tryd.prog ops Q (o :: rest) a w :=
  wpList_append_arr6 (z := z) hgd hS ho hs hx (fun j hj => hz.cell hj) hf hown hm hB h
theorem ppB_no {s : ByteArray} {k : Nat} (hk : k < wN s) (h : okD (wd s k) = false) : ppB s = false := by unfold ppB; rw [allB_false hk h, Bool.and_false]
theorem ppB_many {s : ByteArray} (h : ¬ wN s ≤ 4) : ppB s = false := by unfold ppB; rw [decide_eq_false h]; rfl
theorem ppB_yes {s : ByteArray} (h : wN s ≤ 4) (h2 : ∀ k, k < wN s → okD (wd s k) = true) : ppB s = true := by unfold ppB; rw [decide_eq_true h, (allB_iff _ _).2 h2]; rfl
set_option maxRecDepth 100000 in
set_option maxHeartbeats 4000000 in
theorem iParsePool_any (s : ByteArray) (hs : s.size ≤ 1048576) (m : Int) (w : World) (h : LibOk m w) : Calls Tryd.prog 29 #[.string s] w fun e w' => ∃ A cp, e = .returned (.tuple #[.slice A (ppN s) cp, .bool (ppB s)]) ∧ Arrs w' 57 6 w.heap.size A (ppN s) cp (ppF s) ∧ Below w.heap.size w w' := by
  have HL := Lib.hid h; clear h
  have HSP := Lib.hid (fun w h => split_any s 32 hs m w h)
  obtain ⟨L, hL⟩ : ∃ L, L = wN s := ⟨_, rfl⟩
  obtain ⟨f, hf⟩ : ∃ f, f = wd s := ⟨_, rfl⟩
  have HSP := Lib.hid (show ∀ w, LibOk m w → Calls Tryd.prog 37 #[.string s, .string ⟨#[32]⟩] w fun e w' => ∃ A cp, e = .returned (.slice A L cp) ∧ Strs w' w.heap.size A L cp f ∧ Below w.heap.size w w' from fun w h => by rw [hL, hf]; exact HSP.out w h)
  have HLE := Lib.hid hL
  have HFE := Lib.hid hf
  have HLB : L ≤ 2000000 := by have := parts_len_le 32 s; rw [hL]; unfold wN; omega
  have HFS := Lib.hid (show ∀ k, k < L → (f k).size ≤ 1048576 from fun k hk => by have := wd_size s (i := k) (by rw [← hL]; exact hk); rw [hf]; omega)
  clear hL hf
  go_enter Tryd.func29, Tryd.ntmps29
  go_wp2_with fail
  go_at_call 37
  refine (HSP.out _ HL.out).mono ?_
  rintro e w1 ⟨A0, c0, rfl, hS, hb⟩
  have S1 := Lib.hid hS; have HB1 := Lib.hid hb
  clear hS hb
  go_wp2
  go_loopw [4, 12] (fun v i wr => ∃ k : Nat, k ≤ L ∧ k ≤ 4 ∧ i = .int .i64 (k : Int) ∧ (∃ A cp, v = .slice A k cp ∧ Arrs wr 57 6 w1.heap.size A k cp (ppF s)) ∧ Hid (∀ j, j < k → okD (f j) = true) ∧ Below w1.heap.size w1 wr) (fun v i _ => L - (intOf i).toNat)
  case atStart => exact ⟨0, by omega, by omega, rfl, ⟨none, 0, rfl, Arrs.nil _ _ _ _ _⟩, (fun j hj => by omega), Below.refl _ _⟩
  case round =>
    obtain ⟨k, hk, hk4, rfl, ⟨A, cp, rfl, hI⟩, HO, hb⟩ := hrel
    have HI := Lib.hid hI; have HB := Lib.hid hb
    clear hI hb
    by_cases hlt : k < L
    · have d0 : decide (k < L) = true := by simp; omega
      have d00 : decide ((k : Int) < (L : Int)) = true := by simp; omega
      obtain ⟨g, rfl, _, _, cw⟩ := (S1.out.below HB.out).cell hlt
      have HRD := Lib.hid (fun w h => readDie_any (f k) (HFS.out k hlt) m w h)
      have HLr := Lib.hid (HL.out.below (HB1.out.trans (HB.out.mono HB1.out.size)))
      cases hok : okD (f k)
      · have G := Lib.hid (show ppB s = false from ppB_no (k := k) (by rw [← HLE.out]; exact hlt) (by rw [← HFE.out]; exact hok))
        have HN := Lib.hid (show ppN s = 0 by unfold ppN; rw [G.out]; rfl)
        rw [hok] at HRD
        clear hok
        go_wp2_with fail
        go_at_call 52
        refine (HRD.out _ HLr.out).mono ?_
        rintro e w3 ⟨d, rfl, _, hb3⟩
        have HB3 := Lib.hid ((HB1.out.trans (HB.out.mono HB1.out.size)).trans (hb3.mono (by have := HB.out.size; have := HB1.out.size; omega)))
        clear hb3 cw
        go_wp2_with (first | (refine wpList_alloc_blk rfl 57 rfl zero6 ?_) | (((with_reducible apply wpList_store_new); (case hw => rfl); (case ho => rfl); (case hx => rfl); (case hy => rfl); (case hg => rfl); (case hi => exact sz6); (case h1 => exact fun _ _ => rfl))) | fail)
        go_ret2
        exact ⟨none, 0, by rw [HN.out, G.out]; rfl, by rw [HN.out]; exact Arrs.nil _ _ _ _ _, HB3.out.alloc (by have := HB3.out.size; omega) _⟩
      · rw [hok] at HRD
        have HO2 := Lib.hid (show ∀ j, j < k + 1 → okD (f j) = true from fun j hj => if e : j = k then e ▸ hok else HO.out j (by omega))
        clear hok
        by_cases h4 : k = 4
        · have G := Lib.hid (show ppB s = false from ppB_many (by rw [← HLE.out]; omega))
          have HN := Lib.hid (show ppN s = 0 by unfold ppN; rw [G.out]; rfl)
          have d4 : ((k : Int) == 4) = true := by simp; omega
          clear h4
          go_wp2_with fail
          go_at_call 52
          refine (HRD.out _ HLr.out).mono ?_
          rintro e w3 ⟨d, rfl, _, hb3⟩
          have HB3 := Lib.hid ((HB1.out.trans (HB.out.mono HB1.out.size)).trans (hb3.mono (by have := HB.out.size; have := HB1.out.size; omega)))
          clear hb3 cw
          go_wp2_with (first | (refine wpList_alloc_blk rfl 57 rfl zero6 ?_) | (((with_reducible apply wpList_store_new); (case hw => rfl); (case ho => rfl); (case hx => rfl); (case hy => rfl); (case hg => rfl); (case hi => exact sz6); (case h1 => exact fun _ _ => rfl))) | fail)
          go_ret2
          exact ⟨none, 0, by rw [HN.out, G.out]; rfl, by rw [HN.out]; exact Arrs.nil _ _ _ _ _, HB3.out.alloc (by have := HB3.out.size; omega) _⟩
        · have d4 : ((k : Int) == 4) = false := by simp; omega
          go_wp2_with fail
          go_at_call 52
          refine (HRD.out _ HLr.out).mono ?_
          rintro e w3 ⟨d, rfl, hd, hb3⟩
          have HDD := Lib.hid (hd trivial)
          have HI3 := Lib.hid (HI.out.below hb3)
          have HB3 := Lib.hid (HB.out.trans (hb3.mono HB.out.size))
          clear hb3 cw hd
          have Z1 := Lib.hid (show Blk ((w3.alloc (.cells (row 6 (I d)) 57)).alloc (.cells (row 6 (I d)) 57)) (w3.alloc (.cells (row 6 (I d)) 57)).heap.size 6 57 (I d) from Blk.new _ _ _ _)
          have Z2 := Lib.hid ((HI3.out.below ((Below.refl w3.heap.size w3).alloc (Nat.le_refl _) (.cells (row 6 (I d)) 57))).below ((Below.refl _ _).alloc (Nat.le_refl _) (.cells (row 6 (I d)) 57)))
          have Z3 := Lib.hid (show w1.heap.size ≤ ((w3.alloc (.cells (row 6 (I d)) 57)).alloc (.cells (row 6 (I d)) 57)).heap.size by have := HB3.out.size; simp; omega)
          have Z4 := Lib.hid (show k ≤ 1000000 by omega)
          have Z5 := Lib.hid (show ∀ j, j < 6 → ppF s (k * 6 + j) = d j from fun j hj => by rw [ppF_at s hj, ← HFE.out]; exact (HDD.out j hj).symm)
          go_wp2_with (first | (refine wpList_alloc_blk rfl 57 rfl zero6 ?_) | (((with_reducible apply wpList_store_new); (case hw => rfl); (case ho => rfl); (case hx => rfl); (case hy => rfl); (case hg => rfl); (case hi => exact sz6); (case h1 => exact fun _ _ => rfl))) | ((with_reducible apply wpList_load_blk); (case hw => rfl); (case ho => rfl); (case hx => rfl); (case hb => with_reducible exact Blk.new _ _ _ _); (case hu => exact Tryd.underlying57); (case hi => exact sz6)) | (((with_reducible apply wpList_buildSlice1_6); (case hw => rfl); (case ho => rfl); (case hx => rfl))) | (((with_reducible apply wpList_append_die); (case hgd => rfl); (case ho => rfl); (case hs => rfl); (case hx => rfl); (case hS => exact Tryd.underlying35); (case hown => exact Z2.out); (case hz => exact Z1.out); (case hf => exact Z5.out); (case hm => exact Z4.out); (case hB => exact Z3.out); intro A2 c2 w2 hI2 hg2)) | fail)
          go_roundw
          case rel => exact ⟨k + 1, by omega, by omega, by go_num, ⟨A2, c2, rfl, hI2⟩, HO2.out, below_grown ((HB3.out.alloc HB3.out.size _).alloc (by have := HB3.out.size; simp; omega) _) hg2 (fun g e => (World.ownsRow.lt HI.out g e).1) (by have := HB3.out.size; simp; omega)⟩
          case measure => simp [intOf]; omega
    · have d0 : decide (k < L) = false := by simp; omega
      have d00 : decide ((k : Int) < (L : Int)) = false := by simp; omega
      obtain rfl : k = L := by omega
      have G := Lib.hid (show ppB s = true from ppB_yes (by rw [← HLE.out]; exact hk4) (fun j hj => by rw [← HFE.out]; exact HO.out j (by rw [HLE.out]; exact hj)))
      have HN := Lib.hid (show ppN s = k by unfold ppN; rw [G.out, HLE.out]; rfl)
      go_wp2
      go_ret2
      exact ⟨A, cp, by rw [HN.out, G.out]; rfl, by rw [HN.out]; exact HI.out.base HB1.out.size, HB1.out.trans (HB.out.mono HB1.out.size)⟩
end Go.Proofs.YthjfnfhadgmglaaDoor
