/- markText; slices of texts: how a law compares them, marks them and asks for the marks. -/
import Derived.Test.YthjfnfhadgmglaaDoorStrs
import Derived.Deep.QuietTactic
import Derived.BigQuiet
import Derived.RegionTactic
set_option linter.unusedVariables false
set_option linter.unusedSimpArgs false
set_option linter.unusedSectionVars false
namespace Go.Proofs.YthjfnfhadgmglaaDoor
open Go.RowKit
/-- The text that markText writes for k. -/
def markB (k : Nat) : ByteArray := ⟨#[109]⟩ ++ ⟨(Lib.decDigits k).toArray⟩
theorem mk_small {d : Nat} (h : d < 10) : Lib.decDigits d = [UInt8.ofNat (48 + d)] := by rw [Lib.decDigits, dif_pos h]
theorem mk_big {u : Nat} (h : ¬ u < 10) : Lib.decDigits u = Lib.decDigits (u / 10) ++ [UInt8.ofNat (48 + u % 10)] := by rw [Lib.decDigits, dif_neg h]
/-- What is left of the numeral's digits ahead of the place reached. -/
def ahead (u : Nat) : List UInt8 := if u = 0 then [] else Lib.decDigits u
theorem ahead_step {u : Nat} (h : 0 < u) : ahead u = ahead (u / 10) ++ [UInt8.ofNat (48 + u % 10)] := by
  unfold ahead
  rw [if_neg (by omega)]
  by_cases hs : u < 10
  · rw [if_pos (by omega), mk_small hs, Nat.mod_eq_of_lt hs]; rfl
  · rw [if_neg (by omega), mk_big hs]
theorem ahead_len : ∀ k u, u < 10 ^ k → (ahead u).length ≤ k
  | 0, u, h => by
    obtain rfl : u = 0 := by simpa using h
    simp [ahead]
  | k + 1, u, h => by
    by_cases e : u = 0
    · subst e; simp [ahead]
    · rw [ahead_step (by omega), List.length_append]
      have := ahead_len k (u / 10) (by rw [Nat.pow_succ] at h; omega)
      simp
      omega
theorem mk_byte {d : Nat} {b : UInt8} (h : b.toNat = 48 + d) (w : World) (C : Value) (hC : C = .int .u8 (48 + (d : Int))) : (convert 63 9 (.slice (some ⟨w.heap.size, 0, none⟩) 1 1)).run Tryd.prog (w.alloc (.cells #[C] 5)) = .ok (.string ⟨#[b]⟩) (w.alloc (.cells #[C] 5)) :=
  run_convert_bytes_back (P := Tryd.prog) (w.alloc (.cells #[C] 5)) 63 9 5 ⟨w.heap.size, 0, none⟩ 1 [b] Tryd.underlying63 Tryd.underlying5 Tryd.underlying9 (fun j hj => by
    obtain rfl : j = 0 := by simp at hj; omega
    simp [hC, Addr.add, h])
set_option maxRecDepth 100000 in
set_option maxHeartbeats 1000000 in
theorem markText_any (k : Nat) (h1 : 1 ≤ k) (h2 : k ≤ 10000000) (w : World) : Calls Tryd.prog 38 #[.int .i64 (k : Int)] w fun e w' => e = .returned (.string (markB k)) ∧ Below w.heap.size w w' := by
  have d0 : decide ((k : Int) ≤ 0) = false := by simp; omega
  go_enter Tryd.func38, Tryd.ntmps38
  go_wp2
  go_loopw [0, 3] (fun v t wr => ∃ (u : Nat) (s : ByteArray), u ≤ k ∧ v = .int .i64 (u : Int) ∧ t = .string s ∧ Hid (ahead u ++ s.data.toList = Lib.decDigits k) ∧ Below w.heap.size w wr) (fun v t _ => (intOf v).toNat)
  case atStart => exact ⟨k, ⟨#[]⟩, Nat.le_refl _, rfl, rfl, (show ahead k ++ [] = Lib.decDigits k by unfold ahead; rw [if_neg (by omega)]; simp), Below.refl _ _⟩
  case round =>
    obtain ⟨u, s, hu, rfl, rfl, HE, hb⟩ := hrel
    have HB := Lib.hid hb; clear hb
    have HL := Lib.hid (show s.size ≤ 8 by
      have h3 := congrArg List.length HE.out
      rw [List.length_append] at h3
      have h4 : (Lib.decDigits k).length ≤ 8 := by
        have := ahead_len 8 k (by omega)
        unfold ahead at this
        rw [if_neg (by omega)] at this
        exact this
      show s.data.size ≤ 8
      have : s.data.toList.length = s.data.size := by simp
      omega)
    by_cases hlt : 0 < u
    · obtain ⟨q, hq⟩ : ∃ q, q = u / 10 := ⟨_, rfl⟩
      obtain ⟨d, hd⟩ : ∃ d, d = u % 10 := ⟨_, rfl⟩
      have hd3 : d < 10 := by omega
      have hd1 : decide (0 < u) = true := by simp; omega
      have ht : (u : Int).tdiv 10 = (q : Int) := by rw [Int.tdiv_eq_ediv_of_nonneg (by omega)]; omega
      have ht2 : (u : Int) / 10 = (q : Int) := by omega
      have hm : (u : Int).tmod 10 = (d : Int) := by rw [Int.tmod_eq_emod_of_nonneg (by omega)]; omega
      have hm2 : (u : Int) % 10 = (d : Int) := by omega
      have HS := Lib.hid (show q ≤ k ∧ q < u by omega)
      obtain ⟨b, hb⟩ : ∃ b, b = UInt8.ofNat (48 + d) := ⟨_, rfl⟩
      have hb3 : b.toNat = 48 + d := by rw [hb]; simp; omega
      have HQ := Lib.hid (show ahead q ++ ((⟨#[b]⟩ : ByteArray) ++ s).data.toList = Lib.decDigits k by
        rw [← HE.out, ahead_step hlt, hb, hq, hd, ByteArray.data_append]
        simp)
      have hcv := mk_byte hb3 wr
      have hadd := fun w => run_string_add_sum (P := Tryd.prog) (w := w) ⟨#[b]⟩ s (by have := HL.out; show 1 + s.size ≤ 9223372036854775807; omega)
      clear hq hd hb hb3
      go_wp2
      go_roundw
      case rel => exact ⟨q, _, HS.out.1, by go_num, rfl, HQ.out, HB.out.alloc HB.out.size _⟩
      case measure => have := HS.out; simp [intOf]; omega
    · obtain rfl : u = 0 := by omega
      have hd1 : decide (0 < 0) = false := by simp
      have HQ := Lib.hid (show (⟨#[109]⟩ : ByteArray) ++ s = markB k by
        unfold markB
        rw [← HE.out]
        unfold ahead
        rw [if_pos rfl]
        simp)
      have hadd := fun w => run_string_add_sum (P := Tryd.prog) (w := w) ⟨#[109]⟩ s (by have := HL.out; show 1 + s.size ≤ 9223372036854775807; omega)
      go_wp2
      go_ret
      exact ⟨by rw [HQ.out]; rfl, HB.out⟩
set_option maxHeartbeats 1000000 in
theorem eqStrs_any (o1 o2 : Option Addr) (m c1 c2 B1 B2 : Nat) (f : Nat → ByteArray) (hm : m ≤ 1100000) (w : World) (h1 : Strs w B1 o1 m c1 f) (h2 : Strs w B2 o2 m c2 f) : Calls Tryd.prog 14 #[.slice o1 m c1, .slice o2 m c2] w fun e w' => e = .returned (.bool true) ∧ Below w.heap.size w w' := by
  have H1 := Lib.hid h1; have H2 := Lib.hid h2; clear h1 h2
  have d0 : ((m : Int) == (m : Int)) = true := by simp
  go_enter Tryd.func14, Tryd.ntmps14
  go_wp2
  go_loopw [5] (fun i wr => ∃ k : Nat, k ≤ m ∧ i = .int .i64 (k : Int) ∧ Below w.heap.size w wr) (fun i _ => m - (intOf i).toNat)
  case atStart => exact ⟨0, by omega, rfl, Below.refl _ _⟩
  case round =>
    obtain ⟨k, hk, rfl, hb⟩ := hrel
    by_cases hlt : k < m
    · obtain ⟨g1, rfl, _, _, c1⟩ := (H1.out.below hb).cell hlt
      obtain ⟨g2, rfl, _, _, c2⟩ := (H2.out.below hb).cell hlt
      have d1 : decide (k < m) = true := by simp; omega
      have HB := Lib.hid hb
      clear hb
      go_wp2
      go_quiet (fail)
      go_wp2
      go_roundw
      case rel => exact ⟨k + 1, by omega, by go_num, below_drewN HB.out _⟩
      case measure => simp [intOf]; omega
    · have d1 : decide (k < m) = false := by simp; omega
      go_wp2
      go_ret
      exact ⟨rfl, hb⟩
set_option maxHeartbeats 1000000 in
theorem heldStrs_any (o : Option Addr) (m c B : Nat) (hm : m ≤ 1100000) (w : World) (h : Strs w B o m c (fun i => markB (i + 1))) : Calls Tryd.prog 16 #[.slice o m c, .int .i64 1] w fun e w' => e = .returned (.int .i64 ((m : Int) + 1)) ∧ Below w.heap.size w w' := by
  have H := Lib.hid h; clear h
  go_enter Tryd.func16, Tryd.ntmps16
  go_wp2
  go_loopw [1, 5] (fun t i wr => ∃ k : Nat, k ≤ m ∧ i = .int .i64 (k : Int) ∧ t = .int .i64 ((k + 1 : Nat) : Int) ∧ Below w.heap.size w wr) (fun t i _ => m - (intOf i).toNat)
  case atStart => exact ⟨0, by omega, rfl, rfl, Below.refl _ _⟩
  case round =>
    obtain ⟨k, hk, rfl, rfl, hb⟩ := hrel
    by_cases hlt : k < m
    · obtain ⟨g, rfl, _, _, c0⟩ := (H.out.below hb).cell hlt
      have d1 : decide (k < m) = true := by simp; omega
      have HB := Lib.hid hb
      have HM := Lib.hid (fun w => markText_any (k + 1) (by omega) (by omega) w)
      clear hb
      have C0 := Lib.hid c0
      go_wp2
      refine wp_region_grown_lit (by kernel_rfl) (by kernel_rfl) ?_
      repeat (first | go_big_quiet_skip | (go_big_quiet_want; (first | (refine grown_load_str 9 _ rfl rfl (C0.out) Tryd.isAgg9 ?_; simp only [Act.put, List.setIfInBounds_toArray, List.set_cons_succ, List.set_cons_zero]; go_big_quiet_on) | (go_big_quiet_op; (first | go_big_quiet_on | (refine ⟨_, fun _ _ => rfl, ?_⟩; go_big_quiet_on) | (apply Exists.intro; refine ⟨fun _ hC => ?_, ?_⟩; (first | (go_at_call 38; exact grown_of hC (HM.out _))); go_big_quiet_on))))))
      refine wpQuiet_nil ?_
      intro wg hg
      have HB3 := Lib.hid (HB.out.trans (hg.below.mono HB.out.size))
      clear hg c0
      go_wp2
      go_roundw
      case rel => exact ⟨k + 1, by omega, by go_num, by go_num, HB3.out⟩
      case measure => simp [intOf]; omega
    · have d1 : decide (k < m) = false := by simp; omega
      have e0 : k = m := by omega
      go_wp2
      go_ret
      exact ⟨by rw [e0]; rfl, hb⟩
set_option maxHeartbeats 1000000 in
theorem markStrs_any (o : Option Addr) (m c B : Nat) (f : Nat → ByteArray) (hm : m ≤ 1100000) (w : World) (h : Strs w B o m c f) : Calls Tryd.prog 15 #[.slice o m c, .int .i64 1] w fun e w' => e = .returned (.int .i64 ((m : Int) + 1)) ∧ Strs w' B o m c (fun i => markB (i + 1)) ∧ w.grownBy w' (Value.ownBlock (.slice o m c)) := by
  by_cases h0 : 0 < m
  · obtain ⟨g, F, rfl, hB, hnc, hcm, hb, hx, hg⟩ := h.form h0
    have HB0 := Lib.hid hb
    have HC := Lib.hid (And.intro hB (And.intro hnc hcm))
    have h1 : m ≤ c := hnc
    clear hx h hb hB hnc hcm
    go_enter Tryd.func15, Tryd.ntmps15
    go_wp2
    go_loopw [1, 5] (fun t i wr => ∃ k : Nat, k ≤ m ∧ i = .int .i64 (k : Int) ∧ t = .int .i64 ((k + 1 : Nat) : Int) ∧ Blk wr g c 9 (fun i => if i < k then .string (markB (i + 1)) else F i) ∧ w.grownBy wr (some g)) (fun t i _ => m - (intOf i).toNat)
    case atStart => exact ⟨0, by omega, rfl, rfl, HB0.out.ext (fun i _ => by simp), grownS_refl _ _⟩
    case round =>
      obtain ⟨k, hk, rfl, rfl, hR, hgr⟩ := hrel
      by_cases hlt : k < m
      · have d1 : decide (k < m) = true := by simp; omega
        have R1 := Lib.hid hR; have G1 := Lib.hid hgr
        have HM := Lib.hid (fun w => markText_any (k + 1) (by omega) (by omega) w)
        clear hR hgr
        go_wp2_with fail
        go_at_call 38
        refine (HM.out _).mono ?_
        rintro e w1 ⟨rfl, hb1⟩
        have R2 := Lib.hid (R1.out.below hb1 R1.out.lt)
        have G2 := Lib.hid (grownS_then G1.out hb1)
        clear hb1
        have c0 : w1.cell? ⟨g, k, none⟩ = some (if k < k then .string (markB (k + 1)) else F k) := R2.out.cell (by omega)
        have f0 : w1.frozen? ⟨g, k, none⟩ = false := R2.out.free k
        go_wp2
        go_roundw
        case rel =>
          refine ⟨k + 1, by omega, by go_num, by go_num, (R2.out.set (by omega) _).ext (fun i hi => ?_), grownS_set G2.out k _⟩
          simp only [upd]
          by_cases e : i = k
          · subst e; rw [if_pos rfl, if_pos (by omega)]
          · rw [if_neg e]
            by_cases e2 : i < k
            · rw [if_pos e2, if_pos (by omega)]
            · rw [if_neg e2, if_neg (by omega)]
        case measure => simp [intOf]; omega
      · have d1 : decide (k < m) = false := by simp; omega
        have e0 : k = m := by omega
        have R1 := Lib.hid hR; have G1 := Lib.hid hgr
        clear hR hgr
        go_wp2
        go_ret
        exact ⟨by rw [e0]; rfl, Strs.ofBlk HC.out.1 HC.out.2.1 HC.out.2.2 R1.out (fun i hi => by rw [if_pos (by omega)]), G1.out⟩
  · obtain rfl : m = 0 := by omega
    have H := Lib.hid h; clear h
    have d1 : decide ((0 : Nat) < 0) = false := by simp
    go_enter Tryd.func15, Tryd.ntmps15
    go_wp2
    go_loopw [1, 5] (fun t i wr => i = .int .i64 0 ∧ t = .int .i64 1 ∧ w = wr) (fun t i _ => 0)
    case atStart => exact ⟨rfl, rfl, rfl⟩
    case round =>
      obtain ⟨rfl, rfl, rfl⟩ := hrel
      go_wp2
      go_ret
      exact ⟨rfl, H.out.congr (fun i hi => by omega), grownS_refl _ _⟩
end Go.Proofs.YthjfnfhadgmglaaDoor
