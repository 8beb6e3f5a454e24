/- PoolText, both sides. -/
import Derived.Test.YthjfnfhadgmglaaDoorPool3
import Derived.Test.YthjfnfhadgmglaaDoorFmtInt
import Derived.Test.YthjfnfhadgmglaaDoorTxt
import Derived.Test.YthjfnfhadgmglaaDoorJoinP
import Derived.Test.YthjfnfhadgmglaaDoorJoiS
import Derived.Test.YthjfnfhadgmglaaDoorSplS
set_option linter.unusedVariables false
set_option linter.unusedSimpArgs false
set_option linter.unusedSectionVars false
namespace Go.Proofs.YthjfnfhadgmglaaDoor
open Go.RowKit
theorem dice6x {w : World} {o : Option Addr} {n i : Nat} {x : Nat → Nat → Int} (h : PoolAt w o n x) (hi : i < n) : ∃ a, o = some a ∧ ∀ j, j < 6 → w.cell? ((a.add (i * 6)).add j) = some (I (x i) j) := by
  obtain ⟨a, ho, _, h2⟩ := h i hi
  exact ⟨a, ho, h2⟩
theorem addr_zero (a : Addr) : a.add 0 = a := by
  obtain ⟨b, o, s⟩ := a
  unfold Addr.add
  split <;> simp_all
def itoaB (z : Int) : ByteArray := ⟨(Lib.itoa z).toArray⟩
/-- The text of a die. -/
def dieT (d : Nat → Int) : ByteArray := jn (fun i => itoaB (d i)) ⟨#[46]⟩ 6
/-- The text of dice. -/
def poolT (n : Nat) (x : Nat → Nat → Int) : ByteArray := jn (fun i => dieT (x i)) ⟨#[32]⟩ n
/-- Faces that are not too great. -/
def Faces (d : Nat → Int) : Prop := ∀ i, i < 6 → -999999 ≤ d i ∧ d i ≤ 999999
theorem itoaB_size {z : Int} (h : -999999 ≤ z ∧ z ≤ 999999) : (itoaB z).size ≤ 7 := by
  show (Lib.itoa z).toArray.size ≤ 7
  rw [List.size_toArray]
  unfold Lib.itoa
  split
  · have := dig_len 6 z.natAbs (by omega) (by omega)
    simp
    omega
  · have := dig_len 6 z.toNat (by omega) (by omega)
    omega
theorem szs_le (x : Nat → ByteArray) (b : Nat) : ∀ n, (∀ i, i < n → (x i).size ≤ b) → szs x n ≤ n * b
  | 0, _ => by simp [szs]
  | n + 1, h => by
    have h1 := szs_le x b n (fun i hi => h i (by omega))
    have h2 := h n (by omega)
    simp only [szs, Nat.succ_mul]
    omega
theorem dieT_size {d : Nat → Int} (h : Faces d) : (dieT d).size ≤ 47 := by
  unfold dieT
  rw [jn_size _ (sep := ⟨#[46]⟩) rfl]
  have := szs_le (fun i => itoaB (d i)) 7 6 (fun i hi => itoaB_size (h i hi))
  omega
theorem jn_bd {x : Nat → ByteArray} {sep : ByteArray} (hs : sep.size = 1) {b k : Nat} (h : ∀ i, i < k → (x i).size ≤ b) : (jn x sep k).size ≤ k * b + k := by
  rw [jn_size x hs]
  have := szs_le x b k h
  omega
/-- The library's Join of a slice of texts of the call's own. -/
theorem join_strs {A : Option Addr} {m c B : Nat} {f : Nat → ByteArray} {b : UInt8} (hm : 0 < m) (hm2 : m ≤ 1000) (hf : ∀ i, i < m → (f i).size ≤ 100000) (w : World) (h : Strs w B A m c f) : Calls Tryd.prog 66 #[.slice A m c, .string ⟨#[b]⟩] w fun e w' => e = .returned (.string (jn f ⟨#[b]⟩ m)) ∧ Below w.heap.size w w' := by
  obtain ⟨g, F, rfl, hB, hnc, hcm, hb, hx, hg⟩ := h.form hm
  have hsz := jn_bd (x := f) (sep := ⟨#[b]⟩) rfl hf
  have hml : m * 100000 + m ≤ 100001000 := by omega
  have hC := Tryd.strings_Join g 0 c (txts f m) ⟨#[b]⟩ w (fun j v hj => by
    obtain ⟨h5, rfl⟩ := txts_get f hj
    rw [Nat.zero_add, hb.cell (by omega), hx j h5]) hg (by rw [txts_len]; omega) (by rw [txts_len]; omega) (by
    rw [jn_lib]
    have e2 : (jn f ⟨#[b]⟩ m).data.size = (jn f ⟨#[b]⟩ m).size := rfl
    simp
    omega)
  rw [txts_len, jn_bytes] at hC
  exact hC
set_option maxRecDepth 100000 in
set_option maxHeartbeats 2000000 in
theorem l2Text_any (d : Nat → Int) (hd : Faces d) (w : World) : Calls Tryd.prog 62 #[dieV d] w fun e w' => e = .returned (.string (dieT d)) ∧ Below w.heap.size w w' := by
  have HD := Lib.hid hd; clear hd
  have HN0 := Lib.hid (fun w => num_any (d 0) (HD.out 0 (by omega)) w)
  have c0 : (w.alloc (.cells (row 6 (I d)) 57)).cell? ⟨w.heap.size, 0, none⟩ = some (.int .i64 (d 0)) := (Blk.new w 6 57 (I d)).cell (i := 0) (by omega)
  go_enter Tryd.func62, Tryd.ntmps62
  go_wp2_with fail
  go_at_call 33
  with_reducible refine (HN0.out _).mono ?_
  rintro e w1 ⟨rfl, m, rfl⟩
  have R1 := Lib.hid (show Blk ((w.alloc (.cells (row 6 (I d)) 57)).drewN m) w.heap.size 6 57 (I d) from (Blk.new _ _ _ _).drewN m)
  have HB1 := Lib.hid (show Below w.heap.size w ((w.alloc (.cells (row 6 (I d)) 57)).drewN m) from below_drewN ((Below.refl _ _).alloc (Nat.le_refl _) _) m)
  obtain ⟨W1, hW1⟩ : ∃ W1, W1 = (w.alloc (.cells (row 6 (I d)) 57)).drewN m := ⟨_, rfl⟩
  rw [← hW1] at R1 HB1 ⊢
  clear c0 hW1
  have HI0 := Lib.hid (show (⟨(Lib.itoa (d 0)).toArray⟩ : ByteArray) = jn (fun i => itoaB (d i)) ⟨#[46]⟩ 1 by
    show _ = (⟨#[]⟩ : ByteArray) ++ itoaB (d 0)
    apply ByteArray.ext
    simp [itoaB])
  rw [HI0.out]
  go_wp2
  go_loopw [3, 4] (fun v i wr => ∃ k : Nat, 1 ≤ k ∧ k ≤ 6 ∧ i = .int .i64 (k : Int) ∧ v = .string (jn (fun i => itoaB (d i)) ⟨#[46]⟩ k) ∧ Blk wr w.heap.size 6 57 (I d) ∧ Below w.heap.size w wr) (fun v i _ => 6 - (intOf i).toNat)
  case atStart => exact ⟨1, by omega, by omega, rfl, rfl, R1.out, HB1.out⟩
  case round =>
    obtain ⟨k, k1, k6, rfl, rfl, hR, hb⟩ := hrel
    clear R1 HB1
    by_cases hlt : k < 6
    · have d1 : decide ((k : Int) < 6) = true := by simp; omega
      have c1 : wr.cell? ⟨w.heap.size, k, none⟩ = some (.int .i64 (d k)) := hR.cell hlt
      have R2 := Lib.hid hR; have HB2 := Lib.hid hb
      clear hR hb
      have HN := Lib.hid (fun w => num_any (d k) (HD.out k hlt) w)
      have HZ := Lib.hid (jn_bd (x := fun i => itoaB (d i)) (sep := ⟨#[46]⟩) rfl (b := 7) (k := k) (fun i hi => itoaB_size (HD.out i (by omega))))
      have HZK := Lib.hid (itoaB_size (HD.out k hlt))
      have HJ := Lib.hid (jnM_pos (fun i => itoaB (d i)) ⟨#[46]⟩ k1)
      have HJ2 := Lib.hid (show jnM (fun i => itoaB (d i)) ⟨#[46]⟩ k ++ itoaB (d k) = jn (fun i => itoaB (d i)) ⟨#[46]⟩ (k + 1) from rfl)
      obtain ⟨p, hp⟩ : ∃ p, p = jn (fun i => itoaB (d i)) ⟨#[46]⟩ k := ⟨_, rfl⟩
      obtain ⟨q, hq⟩ : ∃ q, q = jnM (fun i => itoaB (d i)) ⟨#[46]⟩ k := ⟨_, rfl⟩
      obtain ⟨r, hr⟩ : ∃ r, r = jn (fun i => itoaB (d i)) ⟨#[46]⟩ (k + 1) := ⟨_, rfl⟩
      obtain ⟨t, ht⟩ : ∃ t, t = itoaB (d k) := ⟨_, rfl⟩
      have HN2 := Lib.hid (show ∀ w, Calls Tryd.prog 33 #[.int .i64 (d k)] w fun e w' => e = .returned (.string t) ∧ ∃ m, w' = w.drewN m from fun w => by rw [ht]; exact HN.out w)
      rw [← hp] at HZ HJ
      rw [← hq] at HJ HJ2
      rw [← hr, ← ht] at HJ2
      rw [← ht] at HZK
      rw [← hp]
      have HR := Lib.hid hr
      have a1 : ∀ w, (Op.stringOp .add p ⟨#[46]⟩).run Tryd.prog w = .ok (.string q) w := fun w => by rw [HJ.out]; exact run_string_add_sum (P := Tryd.prog) (w := w) p ⟨#[46]⟩ (by have := HZ.out; show p.size + 1 ≤ _; omega)
      have a2 : ∀ w, (Op.stringOp .add q t).run Tryd.prog w = .ok (.string r) w := fun w => by rw [← HJ2.out]; exact run_string_add_sum (P := Tryd.prog) (w := w) q t (by have := HZ.out; have := HZK.out; rw [HJ.out, ByteArray.size_append]; show p.size + 1 + t.size ≤ _; omega)
      clear hp hq hr ht HN
      go_wp2_with fail
      go_at_call 33
      with_reducible refine (HN2.out _).mono ?_
      rintro e w1 ⟨rfl, m, rfl⟩
      go_wp2
      go_roundw
      case rel => exact ⟨k + 1, by omega, by omega, by go_num, by rw [HR.out], R2.out.drewN m, below_drewN HB2.out m⟩
      case measure => simp [intOf]; omega
    · have d1 : decide ((k : Int) < 6) = false := by simp; omega
      obtain rfl : k = 6 := by omega
      go_wp2
      go_ret
      exact ⟨rfl, hb⟩
set_option maxRecDepth 100000 in
set_option maxHeartbeats 2000000 in
theorem l2Write_any (o : Option Addr) (n c : Nat) (x : Nat → Nat → Int) (n1 : 1 ≤ n) (n4 : n ≤ 100) (hx : ∀ i, i < n → Faces (x i)) (w : World) (h : PoolAt w o n x) : Calls Tryd.prog 47 #[poolV o n c] w fun e w' => e = .returned (.string (poolT n x)) ∧ Below w.heap.size w w' := by
  have H := Lib.hid h; clear h
  have HX := Lib.hid hx; clear hx
  go_enter Tryd.func47, Tryd.ntmps47
  go_wp2
  go_loopw [3, 4] (fun v i wr => ∃ k : Nat, k ≤ n ∧ i = .int .i64 (k : Int) ∧ v = .string (jn (fun i => dieT (x i)) ⟨#[32]⟩ k) ∧ Below w.heap.size w wr) (fun v i _ => n - (intOf i).toNat)
  case atStart => exact ⟨0, by omega, rfl, rfl, Below.refl _ _⟩
  case round =>
    obtain ⟨k, hk, rfl, rfl, hb⟩ := hrel
    have HB := Lib.hid hb; clear hb
    by_cases hlt : k < n
    · have d1 : decide (k < n) = true := by simp; omega
      obtain ⟨a1, rfl, hdd⟩ := dice6x (H.out.below HB.out) hlt
      have HC := Lib.hid hdd
      clear hdd
      have HT := Lib.hid (fun w => l2Text_any (x k) (HX.out k hlt) w)
      have HZ := Lib.hid (jn_bd (x := fun i => dieT (x i)) (sep := ⟨#[32]⟩) rfl (b := 47) (k := k) (fun i hi => dieT_size (HX.out i (by omega))))
      have HZK := Lib.hid (dieT_size (HX.out k hlt))
      have HJ2 := Lib.hid (show jnM (fun i => dieT (x i)) ⟨#[32]⟩ k ++ dieT (x k) = jn (fun i => dieT (x i)) ⟨#[32]⟩ (k + 1) from rfl)
      obtain ⟨q, hq⟩ : ∃ q, q = jnM (fun i => dieT (x i)) ⟨#[32]⟩ k := ⟨_, rfl⟩
      obtain ⟨r, hr⟩ : ∃ r, r = jn (fun i => dieT (x i)) ⟨#[32]⟩ (k + 1) := ⟨_, rfl⟩
      obtain ⟨t, ht⟩ : ∃ t, t = dieT (x k) := ⟨_, rfl⟩
      by_cases h0 : 0 < k
      · have d2 : decide (0 < k) = true := by simp; omega
        have HJ := Lib.hid (jnM_pos (fun i => dieT (x i)) ⟨#[32]⟩ h0)
        obtain ⟨p, hp⟩ : ∃ p, p = jn (fun i => dieT (x i)) ⟨#[32]⟩ k := ⟨_, rfl⟩
        rw [← hp] at HZ HJ
        rw [← hq] at HJ HJ2
        rw [← hr, ← ht] at HJ2
        rw [← ht] at HZK HT
        rw [← hp]
        have HR := Lib.hid hr
        have a1 : ∀ w, (Op.stringOp .add p ⟨#[32]⟩).run Tryd.prog w = .ok (.string q) w := fun w => by rw [HJ.out]; exact run_string_add_sum (P := Tryd.prog) (w := w) p ⟨#[32]⟩ (by have := HZ.out; show p.size + 1 ≤ _; omega)
        have a2 : ∀ w, (Op.stringOp .add q t).run Tryd.prog w = .ok (.string r) w := fun w => by rw [← HJ2.out]; exact run_string_add_sum (P := Tryd.prog) (w := w) q t (by have := HZ.out; have := HZK.out; rw [HJ.out, ByteArray.size_append]; show p.size + 1 + t.size ≤ _; omega)
        clear hp hq hr ht
        go_wp2_with (first | ((with_reducible apply wpList_load_cells); (case hw => rfl); (case ho => rfl); (case hx => rfl); (case hc => with_reducible exact HC.out); (case ha => exact Tryd.isAgg57); (case hi => exact sz6)) | fail)
        go_at_call 62
        refine (HT.out _).mono ?_
        rintro e w1 ⟨rfl, hb1⟩
        have HB1 := Lib.hid (HB.out.trans (hb1.mono HB.out.size)); clear hb1
        go_wp2
        go_roundw
        case rel => exact ⟨k + 1, by omega, by go_num, by rw [HR.out], HB1.out⟩
        case measure => simp [intOf]; omega
      · obtain rfl : k = 0 := by omega
        have d2 : decide ((0 : Nat) < 0) = false := by simp
        have HC := Lib.hid (show ∀ j, j < 6 → wr.cell? (a1.add j) = some (I (x 0) j) from fun j hj => by have h := HC.out j hj; rw [Nat.zero_mul, addr_zero] at h; exact h)
        have hq0 : q = ⟨#[]⟩ := hq
        rw [← hq] at HJ2
        rw [Nat.zero_add] at HJ2 hr
        rw [← hr, ← ht] at HJ2
        rw [← ht] at HZK HT
        rw [hq0] at HJ2
        have HP := Lib.hid (show jn (fun i => dieT (x i)) ⟨#[32]⟩ 0 = ⟨#[]⟩ from rfl)
        rw [HP.out]
        have HR := Lib.hid hr
        have a2 : ∀ w, (Op.stringOp .add ⟨#[]⟩ t).run Tryd.prog w = .ok (.string r) w := fun w => by rw [← HJ2.out]; exact run_string_add_sum (P := Tryd.prog) (w := w) ⟨#[]⟩ t (by have := HZK.out; show 0 + t.size ≤ _; omega)
        clear hq hr ht hq0
        go_wp2_with (first | ((with_reducible apply wpList_load_cells); (case hw => rfl); (case ho => rfl); (case hx => rfl); (case hc => with_reducible exact HC.out); (case ha => exact Tryd.isAgg57); (case hi => exact sz6)) | fail)
        go_at_call 62
        refine (HT.out _).mono ?_
        rintro e w1 ⟨rfl, hb1⟩
        have HB1 := Lib.hid (HB.out.trans (hb1.mono HB.out.size)); clear hb1
        go_wp2
        go_roundw
        case rel => exact ⟨1, by omega, by go_num, by rw [HR.out], HB1.out⟩
        case measure => simp [intOf]; omega
    · have d1 : decide (k < n) = false := by simp; omega
      obtain rfl : k = n := by omega
      go_wp2
      go_ret
      exact ⟨rfl, HB.out⟩
end Go.Proofs.YthjfnfhadgmglaaDoor
