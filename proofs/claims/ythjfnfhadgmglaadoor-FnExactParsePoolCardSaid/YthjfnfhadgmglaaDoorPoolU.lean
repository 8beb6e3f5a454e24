/- PoolText, the program's side. -/
import Derived.Test.YthjfnfhadgmglaaDoorPoolT
set_option linter.unusedVariables false
set_option linter.unusedSimpArgs false
set_option linter.unusedSectionVars false
namespace Go.Proofs.YthjfnfhadgmglaaDoor
open Go.RowKit
theorem gTabP : Tryd.prog.globalNamed "internal/strconv.uint64pow10" = some 3 := by kernel_rfl
abbrev TabOk (w : World) : Prop := Lib.TabIs Tryd.prog w "internal/strconv.uint64pow10" .u64 Lib.pow10Tab
theorem TabOk.below {w w' : World} (h : TabOk w) (hb : Below w.heap.size w w') : TabOk w' := var_keep gTabP h hb
theorem faces_of {d : Nat → Int} (h : dieB d = true) : Faces d := by
  have hd : Die d := by simpa [dieB] using h
  intro i hi
  have := (hd i hi).1
  omega
theorem poolB_fact {n : Nat} {x : Nat → Nat → Int} (h : poolB n x = true) : 1 ≤ n ∧ n ≤ 4 ∧ ∀ i, i < n → Faces (x i) := by
  unfold poolB at h
  simp only [Bool.and_eq_true, decide_eq_true_eq] at h
  exact ⟨by omega, by omega, fun i hi => faces_of ((allB_iff _ _).1 h.2 i hi)⟩
set_option maxRecDepth 100000 in
set_option maxHeartbeats 2000000 in
theorem numbersText_any (b : Nat) (T : TypeId) (d : Nat → Int) (hd : Faces d) (w : World) (h : Blk w b 6 T (I d)) (htab : TabOk w) : Calls Tryd.prog 65 #[.slice (some ⟨b, 0, none⟩) 6 6, .string ⟨#[46]⟩] w fun e w' => e = .returned (.string (dieT d)) ∧ Below w.heap.size w w' := by
  have H := Lib.hid h; clear h
  have HTAB := Lib.hid htab; clear htab
  have HD := Lib.hid hd; clear hd
  go_enter Tryd.func65, Tryd.ntmps65
  go_wp2
  go_loopw [5, 10] (fun v i wr => ∃ k : Nat, k ≤ 6 ∧ i = .int .i64 (k : Int) ∧ (∃ A cp, v = .slice A k cp ∧ Strs wr w.heap.size A k cp (fun i => itoaB (d i))) ∧ Below w.heap.size w wr) (fun v i _ => 6 - (intOf i).toNat)
  case atStart => exact ⟨0, by omega, rfl, ⟨none, 0, rfl, Strs.nil _ _ _⟩, Below.refl _ _⟩
  case round =>
    obtain ⟨k, hk, rfl, ⟨A, cp, rfl, hI⟩, hb⟩ := hrel
    have HI := Lib.hid hI; have HB := Lib.hid hb
    clear hI hb
    by_cases hlt : k < 6
    · have d0 : decide ((k : Int) < 6) = true := by simp; omega
      have d00 : decide (k < 6) = true := by simp; omega
      have c0 : wr.cell? ⟨b, k, none⟩ = some (.int .i64 (d k)) := (H.out.below HB.out H.out.lt).cell hlt
      have HBD := Lib.hid (HD.out k hlt)
      go_wp2_with fail
      go_at_call 35
      refine (Tryd.strconv_Itoa (d k) (by have := HBD.out; omega) (by have := HBD.out; omega) _ (HTAB.out.below HB.out)).mono ?_
      rintro e w1 ⟨rfl, q, os, rfl⟩
      have HB1 := Lib.hid (show Below wr.heap.size wr (Go.Sort.grow (wr.drewN q) os) from Lib.below_grow _ _ (Nat.le_refl _) _ _)
      obtain ⟨W1, hW1⟩ : ∃ W1, W1 = Go.Sort.grow (wr.drewN q) os := ⟨_, rfl⟩
      rw [← hW1] at HB1 ⊢
      clear hW1 c0
      have HI1 := Lib.hid (HI.out.below HB1.out)
      have HB2 := Lib.hid (HB.out.trans (HB1.out.mono HB.out.size))
      have Z1 := Lib.hid (show ∀ x, (W1.alloc (.cells #[.string x] 9)).cell? ⟨W1.heap.size, 0, none⟩ = some (.string x) from fun x => by simp)
      have Z2 := Lib.hid (fun x => HI1.out.below ((Below.refl W1.heap.size W1).alloc (Nat.le_refl _) (.cells #[.string x] 9)))
      have Z3 := Lib.hid (show ∀ x, w.heap.size ≤ (W1.alloc (.cells #[.string x] 9)).heap.size from fun x => by have := HB2.out.size; simp; omega)
      have Z4 := Lib.hid (show k ≤ 2000000 by omega)
      go_wp2_with (first | (((with_reducible apply wpList_append_str); (case hgd => rfl); (case ho => rfl); (case hs => rfl); (case hx => rfl); (case hS => exact Tryd.underlying25); (case hown => exact Z2.out _); (case hz => exact Z1.out _); (case hf => rfl); (case hm => exact Z4.out); (case hB => exact Z3.out _); intro A2 c2 w2 hI2 hg2)) | fail)
      go_roundw
      case rel => exact ⟨k + 1, by omega, by go_num, ⟨A2, c2, rfl, hI2⟩, Strs.append_below HB2.out HI1.out (Nat.le_refl _) hg2⟩
      case measure => simp [intOf]; omega
    · have d0 : decide ((k : Int) < 6) = false := by simp; omega
      have d00 : decide (k < 6) = false := by simp; omega
      obtain rfl : k = 6 := by omega
      have HJ := Lib.hid (fun w h => join_strs (A := A) (c := cp) (B := w.heap.size) (b := 46) (show 0 < 6 by omega) (by omega) (f := fun i => itoaB (d i)) (fun i hi => by have := itoaB_size (HD.out i hi); omega) w h)
      go_wp2_with fail
      go_at_call 66
      refine (join_strs (b := 46) (by omega) (by omega) (fun i hi => by have := itoaB_size (HD.out i hi); omega) _ HI.out).mono ?_
      rintro e w2 ⟨rfl, hb2⟩
      have HB2 := Lib.hid (HB.out.trans (hb2.mono HB.out.size))
      clear hb2
      go_wp2
      go_ret
      exact ⟨rfl, HB2.out⟩
set_option maxRecDepth 100000 in
set_option maxHeartbeats 2000000 in
theorem poolText_any (o : Option Addr) (n c : Nat) (x : Nat → Nat → Int) (n1 : 1 ≤ n) (n4 : n ≤ 4) (hx : ∀ i, i < n → Faces (x i)) (w : World) (h : PoolAt w o n x) (htab : TabOk w) : Calls Tryd.prog 50 #[poolV o n c] w fun e w' => e = .returned (.string (poolT n x)) ∧ Below w.heap.size w w' := by
  have H := Lib.hid h; clear h
  have HTAB := Lib.hid htab; clear htab
  have HX := Lib.hid hx; clear hx
  go_enter Tryd.func50, Tryd.ntmps50
  go_wp2
  go_loopw [3, 8] (fun v i wr => ∃ k : Nat, k ≤ n ∧ i = .int .i64 (k : Int) ∧ (∃ A cp, v = .slice A k cp ∧ Strs wr w.heap.size A k cp (fun i => dieT (x i))) ∧ Below w.heap.size w wr) (fun v i _ => n - (intOf i).toNat)
  case atStart => exact ⟨0, by omega, rfl, ⟨none, 0, rfl, Strs.nil _ _ _⟩, Below.refl _ _⟩
  case round =>
    obtain ⟨k, hk, rfl, ⟨A, cp, rfl, hI⟩, hb⟩ := hrel
    have HI := Lib.hid hI; have HB := Lib.hid hb
    clear hI hb
    by_cases hlt : k < n
    · have d0 : decide (k < n) = true := by simp; omega
      obtain ⟨a1, rfl, hdd⟩ := dice6x (H.out.below HB.out) hlt
      have HC := Lib.hid hdd
      clear hdd
      go_wp2_with (first | (refine wpList_load_cells rfl 57 _ rfl rfl (HC.out) Tryd.isAgg57 sz6 ?_) | (refine wpList_alloc_blk rfl 57 rfl zero6 ?_) | (((with_reducible apply wpList_store_new); (case hw => rfl); (case ho => rfl); (case hx => rfl); (case hy => rfl); (case hg => rfl); (case hi => exact sz6); (case h1 => exact fun _ _ => rfl))) | fail)
      go_at_call 65
      refine (numbersText_any wr.heap.size 57 (x k) (HX.out k hlt) _ (Blk.new _ _ _ _) (HTAB.out.below (HB.out.alloc HB.out.size _))).mono ?_
      rintro e w1 ⟨rfl, hb1⟩
      have HI1 := Lib.hid ((HI.out.below ((Below.refl wr.heap.size wr).alloc (Nat.le_refl _) (.cells (row 6 (I (x k))) 57))).below hb1)
      have HB2 := Lib.hid ((HB.out.alloc HB.out.size (.cells (row 6 (I (x k))) 57)).trans (hb1.mono (by have := HB.out.size; simp; omega)))
      clear hb1
      have Z1 := Lib.hid (show ∀ x, (w1.alloc (.cells #[.string x] 9)).cell? ⟨w1.heap.size, 0, none⟩ = some (.string x) from fun x => by simp)
      have Z2 := Lib.hid (fun x => HI1.out.below ((Below.refl w1.heap.size w1).alloc (Nat.le_refl _) (.cells #[.string x] 9)))
      have Z3 := Lib.hid (show ∀ x, w.heap.size ≤ (w1.alloc (.cells #[.string x] 9)).heap.size from fun x => by have := HB2.out.size; simp; omega)
      have Z4 := Lib.hid (show k ≤ 2000000 by omega)
      go_wp2_with (first | (((with_reducible apply wpList_append_str); (case hgd => rfl); (case ho => rfl); (case hs => rfl); (case hx => rfl); (case hS => exact Tryd.underlying25); (case hown => exact Z2.out _); (case hz => exact Z1.out _); (case hf => rfl); (case hm => exact Z4.out); (case hB => exact Z3.out _); intro A2 c2 w2 hI2 hg2)) | fail)
      go_roundw
      case rel => exact ⟨k + 1, by omega, by go_num, ⟨A2, c2, rfl, hI2⟩, Strs.append_below HB2.out HI1.out (Nat.le_refl _) hg2⟩
      case measure => simp [intOf]; omega
    · have d0 : decide (k < n) = false := by simp; omega
      obtain rfl : k = n := by omega
      go_wp2_with fail
      go_at_call 66
      refine (join_strs (b := 32) (by omega) (by omega) (fun i hi => by have := dieT_size (HX.out i hi); omega) _ HI.out).mono ?_
      rintro e w2 ⟨rfl, hb2⟩
      have HB2 := Lib.hid (HB.out.trans (hb2.mono HB.out.size))
      clear hb2
      go_wp2
      go_ret
      exact ⟨rfl, HB2.out⟩
noncomputable def ptV (n : Nat) (x : Nat → Nat → Int) : ByteArray := if poolB n x then poolT n x else ⟨#[]⟩
theorem sPoolText_any (o : Option Addr) (n c : Nat) (x : Nat → Nat → Int) (hn : n ≤ 1048576) (w : World) (h : PoolAt w o n x) : Calls Tryd.prog 24 #[poolV o n c] w fun e w' => e = .returned (.tuple #[.string (ptV n x), .bool (poolB n x)]) ∧ Below w.heap.size w w' := by
  have H := Lib.hid h; clear h
  cases g : poolB n x
  · have HV := Lib.hid (show ptV n x = ⟨#[]⟩ by unfold ptV; rw [g]; rfl)
    rw [HV.out]
    go_enter Tryd.func24, Tryd.ntmps24
    go_wp2_with fail
    go_at_call 46
    refine (l2Pool_any o n c x hn _ H.out).mono ?_
    rintro e w1 ⟨rfl, hb1⟩
    have HB1 := Lib.hid hb1; clear hb1
    rw [g]
    go_wp2
    go_ret2
    exact ⟨rfl, HB1.out⟩
  · obtain ⟨n1, n4, hf⟩ := poolB_fact g
    have HV := Lib.hid (show ptV n x = poolT n x by unfold ptV; rw [g]; rfl)
    rw [HV.out]
    have HW := Lib.hid (fun w h => l2Write_any o n c x n1 (by omega) hf w h)
    clear hf
    go_enter Tryd.func24, Tryd.ntmps24
    go_wp2_with fail
    go_at_call 46
    refine (l2Pool_any o n c x hn _ H.out).mono ?_
    rintro e w1 ⟨rfl, hb1⟩
    have HB1 := Lib.hid hb1; clear hb1
    rw [g]
    go_wp2_with fail
    go_at_call 47
    refine (HW.out _ (H.out.below HB1.out)).mono ?_
    rintro e w2 ⟨rfl, hb2⟩
    have HB2 := Lib.hid (HB1.out.trans (hb2.mono HB1.out.size)); clear hb2
    go_wp2
    go_ret2
    exact ⟨rfl, HB2.out⟩
theorem iPoolText_any (o : Option Addr) (n c : Nat) (x : Nat → Nat → Int) (hn : n ≤ 1048576) (w : World) (h : PoolAt w o n x) (htab : TabOk w) : Calls Tryd.prog 26 #[poolV o n c] w fun e w' => e = .returned (.tuple #[.string (ptV n x), .bool (poolB n x)]) ∧ Below w.heap.size w w' := by
  have H := Lib.hid h; clear h
  have HTAB := Lib.hid htab; clear htab
  cases g : poolB n x
  · have HV := Lib.hid (show ptV n x = ⟨#[]⟩ by unfold ptV; rw [g]; rfl)
    rw [HV.out]
    go_enter Tryd.func26, Tryd.ntmps26
    go_wp2_with fail
    go_at_call 49
    refine (isPool_any o n c x hn _ H.out).mono ?_
    rintro e w1 ⟨rfl, hb1⟩
    have HB1 := Lib.hid hb1; clear hb1
    rw [g]
    go_wp2
    go_ret2
    exact ⟨rfl, HB1.out⟩
  · obtain ⟨n1, n4, hf⟩ := poolB_fact g
    have HV := Lib.hid (show ptV n x = poolT n x by unfold ptV; rw [g]; rfl)
    rw [HV.out]
    have HW := Lib.hid (fun w h ht => poolText_any o n c x n1 (by omega) hf w h ht)
    clear hf
    go_enter Tryd.func26, Tryd.ntmps26
    go_wp2_with fail
    go_at_call 49
    refine (isPool_any o n c x hn _ H.out).mono ?_
    rintro e w1 ⟨rfl, hb1⟩
    have HB1 := Lib.hid hb1; clear hb1
    rw [g]
    go_wp2_with fail
    go_at_call 50
    refine (HW.out _ (H.out.below HB1.out) (HTAB.out.below HB1.out)).mono ?_
    rintro e w2 ⟨rfl, hb2⟩
    have HB2 := Lib.hid (HB1.out.trans (hb2.mono HB1.out.size)); clear hb2
    go_wp2
    go_ret2
    exact ⟨rfl, HB2.out⟩
end Go.Proofs.YthjfnfhadgmglaaDoor
