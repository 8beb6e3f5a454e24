/- JoinStrings, both sides: the functions; what its law asks of slices of texts. -/
import Derived.Test.YthjfnfhadgmglaaJoinS
import Derived.Lib.SplitLaws
set_option linter.unusedVariables false
set_option linter.unusedSimpArgs false
set_option linter.unusedSectionVars false
namespace Go.Proofs.Ythjfnfhadgmglaa
open Go.RowKit
theorem madeS (N : Nat) : madeCells #[.string ⟨#[]⟩] N = row N (fun _ => .string ⟨#[]⟩) := by
  unfold madeCells
  apply Array.ext
  · simp [row_size]
  · intro i h1 h2
    simp [row, Nat.mod_one]
theorem run_makeStrs (n : Nat) (hn : n ≤ 1048576) (w : World) : (Instr.makeSlice 27 (.int .i64 (n : Int)) (.int .i64 (n : Int))).run Try.prog w = .ok (.slice (some ⟨w.heap.size, 0, none⟩) n n) (w.alloc (.cells (row n (fun _ => .string ⟨#[]⟩)) 9)) := by
  obtain ⟨i, hq, z1, z2, z3⟩ := infoS_get infoS
  have h := run_make (P := Try.prog) w 27 9 i _ Try.underlying27 hq z1 .i64 .i64 (n : Int) (n : Int) (by omega) (Int.le_refl _) (by rw [z3]; omega) (by omega)
  rw [h, z2]
  simp only [Int.toNat_natCast, Nat.mul_one]
  rw [show (Value.string ⟨#[]⟩).cells = #[.string ⟨#[]⟩] from rfl, madeS]
theorem wpList_makeStrs {ops : Array Oper} {rest : List Oper} {o : Oper} {a : Act} {w : World} {Q : Exit → Act → World → Prop} (hw : Region.wanted o (yielded ops a.tmps) = true) {x y : Operand} (ho : o.op = .makeSlice 27 x y)
    {n : Nat} (hx : a.eval x = .int .i64 (n : Int)) (hy : a.eval y = .int .i64 (n : Int)) (hn : n ≤ 1048576) (h : wpList Try.prog ops Q rest (a.put o.dst (.slice (some ⟨w.heap.size, 0, none⟩) n n)) (w.alloc (.cells (row n (fun _ => .string ⟨#[]⟩)) 9))) : wpList Try.prog ops Q (o :: rest) a w := by
  unfold wpList
  rw [if_pos hw]
  left
  unfold Oper.wp execOp
  simp only [ho, hx, hy, Sem.run_bind, Sem.run_pure, Result.andThen_ok, run_makeStrs n hn w]
  exact h
/-- A block of n texts. -/
abbrev TxtBlk (w : World) (b n : Nat) (x : Nat → ByteArray) : Prop := Blk w b n 9 (fun i => .string (x i))
set_option maxHeartbeats 1000000 in
theorem toStrs_any (o : Option Addr) (n c : Nat) (x : Nat → ByteArray) (hn : n ≤ 1048576) (w : World) (h : StrsAt w o n x) : Calls Try.prog 13 #[.slice o n c] w fun e w' => e = .returned (.slice (some ⟨w.heap.size, 0, none⟩) n n) ∧ TxtBlk w' w.heap.size n x ∧ Below w.heap.size w w' := by
  have H := Lib.hid h; clear h
  go_enter Try.func13, Try.ntmps13
  go_wp2_with (first | (((with_reducible apply wpList_makeStrs); (case hw => rfl); (case ho => rfl); (case hx => rfl); (case hy => rfl); (case hn => exact hn))) | fail)
  go_loopw [4] (fun i wr => ∃ k : Nat, k ≤ n ∧ i = .int .i64 k ∧ Blk wr w.heap.size n 9 (fun p => .string (if p < k then x p else ⟨#[]⟩)) ∧ Below w.heap.size w wr) (fun i _ => n - (intOf i).toNat)
  case atStart => exact ⟨0, by omega, rfl, (Blk.new _ _ _ _).ext (fun p _ => by simp), (Below.refl _ _).alloc (Nat.le_refl _) _⟩
  case round =>
    obtain ⟨k, hk, rfl, hR, hb⟩ := hrel
    by_cases hlt : k < n
    · obtain ⟨a, rfl, ha, c0⟩ := H.out.below hb k hlt
      have d1 : decide (k < n) = true := by simp; omega
      have c1 : wr.cell? ⟨w.heap.size, k, none⟩ = some (.string (if k < k then x k else ⟨#[]⟩)) := hR.cell hlt
      have f1 : wr.frozen? ⟨w.heap.size, k, none⟩ = false := hR.free k
      have HR := Lib.hid hR; have HB := Lib.hid hb
      clear hR hb
      go_wp2
      go_roundw
      case rel =>
        refine ⟨k + 1, by omega, by go_num, (HR.out.set hlt _).ext (fun p hp => ?_), HB.out.setCell (Nat.le_refl _) _⟩
        simp only [upd]
        by_cases e : p = k
        · subst e; rw [if_pos rfl, if_pos (by omega)]
        · rw [if_neg e]
          by_cases e2 : p < k
          · rw [if_pos e2, if_pos (by omega)]
          · rw [if_neg e2, if_neg (by omega)]
      case measure => simp [intOf]; omega
    · have d1 : decide (k < n) = false := by simp; omega
      have HR := Lib.hid hR; have HB := Lib.hid hb
      clear hR hb
      go_wp2
      go_ret
      exact ⟨rfl, HR.out.ext (fun p hp => by rw [if_pos (by omega)]), HB.out⟩
/-- What is left of the size that a law lets in, or -1. -/
def szV (n : Nat) (x : Nat → ByteArray) : Int := if n + szs x n ≤ 1048576 then 1048576 - ((n + szs x n : Nat) : Int) else -1
set_option maxHeartbeats 1000000 in
theorem szStrs_any (o : Option Addr) (n c : Nat) (x : Nat → ByteArray) (hn : n ≤ maxLen) (hx : ∀ i, (x i).size ≤ maxLen) (w : World) (h : StrsAt w o n x) : Calls Try.prog 11 #[.slice o n c, .int .i64 1048576] w fun e w' => e = .returned (.int .i64 (szV n x)) ∧ w = w' := by
  have H := Lib.hid h; clear h
  have HX := Lib.hid hx; clear hx
  have hm : (n : Int) ≤ 9223372036854775807 := by have : maxLen ≤ 9223372036854775807 := by decide
                                                  omega
  by_cases h0 : n ≤ 1048576
  · have d0 : decide ((1048576 : Int) - (n : Int) < 0) = false := by simp; omega
    go_enter Try.func11, Try.ntmps11
    go_wp2
    go_loopw [1, 5] (fun t i wr => ∃ (k z : Nat), k ≤ n ∧ i = .int .i64 (k : Int) ∧ t = .int .i64 (z : Int) ∧ Hid (z + (n + szs x k) = 1048576) ∧ w = wr) (fun t i _ => n - (intOf i).toNat)
    case atStart => exact ⟨0, 1048576 - n, by omega, rfl, by rw [Int.natCast_sub h0]; rfl, (show 1048576 - n + (n + 0) = 1048576 by omega), rfl⟩
    case round =>
      obtain ⟨k, z, hk, rfl, rfl, HZ, rfl⟩ := hrel
      have hz : z ≤ 1048576 := by have := HZ.out; omega
      by_cases hlt : k < n
      · obtain ⟨a, rfl, ha, c0⟩ := H.out k hlt
        have d1 : decide (k < n) = true := by simp; omega
        have hxk := HX.out k
        have hml : maxLen ≤ 9223372036854775807 := by decide
        obtain ⟨q, hq⟩ : ∃ q, q = x k := ⟨_, rfl⟩
        rw [← hq] at c0 hxk
        have hxk : q.size ≤ 9223372036854775807 := Nat.le_trans hxk hml
        have HQ := Lib.hid hq
        clear hq hml
        by_cases hv : q.size ≤ z
        · have d2 : decide ((z : Int) - (q.size : Int) < 0) = false := by simp; omega
          have d3 : decide ((z : Int) < (q.size : Int)) = false := by simp; omega
          have d4 : decide (z < q.size) = false := by simp; omega
          go_wp2
          go_roundw
          case rel => exact ⟨k + 1, z - q.size, by omega, by go_num, by rw [Int.natCast_sub hv], (show z - q.size + (n + (szs x k + (x k).size)) = 1048576 by have := HZ.out; have := HQ.out; subst this; omega), trivial⟩
          case measure => simp [intOf]; omega
        · have d2 : decide ((z : Int) - (q.size : Int) < 0) = true := by simp; omega
          have d3 : decide ((z : Int) < (q.size : Int)) = true := by simp; omega
          have d4 : decide (z < q.size) = true := by simp; omega
          have HN := Lib.hid (show szV n x = -1 by
            unfold szV
            refine if_neg ?_
            have h1 := szs_mono x (show k + 1 ≤ n by omega)
            have h2 := HZ.out
            have h3 := HQ.out
            simp only [szs, ← h3] at h1
            omega)
          go_wp2
          go_ret
          exact ⟨by rw [HN.out]; rfl, rfl⟩
      · have d1 : decide (k < n) = false := by simp; omega
        obtain rfl : k = n := by omega
        have HN := Lib.hid (show szV k x = (z : Int) by
          unfold szV
          rw [if_pos (by have := HZ.out; omega)]
          have := HZ.out
          omega)
        go_wp2
        go_ret
        exact ⟨by rw [HN.out]; rfl, rfl⟩
  · have d0 : decide ((1048576 : Int) - (n : Int) < 0) = true := by simp; omega
    have HN := Lib.hid (show szV n x = -1 by unfold szV; exact if_neg (by omega))
    rw [HN.out]
    go_enter Try.func11, Try.ntmps11
    go_wp2
    go_ret
    exact ⟨rfl, rfl⟩
set_option maxRecDepth 100000 in
set_option maxHeartbeats 2000000 in
theorem sJoin_any (b n : Nat) (x : Nat → ByteArray) (sep : ByteArray) (hn : n + szs x n ≤ 1048576) (w : World) (h : TxtBlk w b n x) : Calls Try.prog 12 #[.slice (some ⟨b, 0, none⟩) n n, .string sep] w fun e w' => e = .returned (.tuple #[.string (joinV n x sep), .bool (joinB n x sep)]) ∧ Below w.heap.size w w' := by
  have H := Lib.hid h; clear h
  by_cases h1 : sep.size = 1
  · obtain ⟨c, rfl⟩ := Lib.one_byte sep h1
    by_cases h2 : 0 < n
    · have hnn : n ≤ 1048576 := by omega
      have d0 : ((n : Int) == 0) = false := by simp; omega
      have HNN := Lib.hid hn
      clear h1 hn
      go_enter Try.func12, Try.ntmps12
      go_wp2
      go_loopw [6, 7] (fun v i wr => ∃ k : Nat, k ≤ n ∧ i = .int .i64 (k : Int) ∧ v = .string (jn x ⟨#[c]⟩ k) ∧ Hid (∀ j, j < k → hasC c (x j) = false) ∧ Hid (k = 0 ∨ (jn x ⟨#[c]⟩ k).size ≤ 4000) ∧ Below w.heap.size w wr) (fun v i _ => n - (intOf i).toNat)
      case atStart => exact ⟨0, by omega, rfl, rfl, (fun j hj => by omega), .inl rfl, Below.refl _ _⟩
      case round =>
        obtain ⟨k, hk, rfl, rfl, HO, HS, hb⟩ := hrel
        have HB := Lib.hid hb; clear hb
        have HSZ := Lib.hid (show (jn x ⟨#[c]⟩ k).size ≤ 4000 by rcases HS.out with h | h <;> first | (subst h; simp [jn, ByteArray.size]; done) | exact h)
        by_cases hlt : k < n
        · have d1 : decide (k < n) = true := by simp; omega
          have c0 := (H.out.below HB.out H.out.lt).cell hlt
          have C0 := Lib.hid c0
          have hxk := szs_mono x (show k + 1 ≤ n by omega)
          simp only [szs] at hxk
          have HK := Lib.hid (show (x k).size ≤ 1048576 by have := HNN.out; omega)
          clear hxk
          cases hc : hasC c (x k)
          · have HO2 := Lib.hid (show ∀ j, j < k + 1 → hasC c (x j) = false from fun j hj => if e : j = k then e ▸ hc else HO.out j (by omega))
            have HST := Lib.hid (fun w => stands_any (x k) c HK.out w)
            rw [hc] at HST
            have HZ1 := Lib.hid (jnM_size x (sep := ⟨#[c]⟩) rfl k)
            have HZ2 := Lib.hid (jn_size x (sep := ⟨#[c]⟩) rfl (k + 1))
            clear hc
            by_cases h0 : 0 < k
            · have d2 : decide (0 < k) = true := by simp; omega
              have HJ := Lib.hid (jnM_pos x ⟨#[c]⟩ h0)
              have HJ2 := Lib.hid (show jnM x ⟨#[c]⟩ k ++ x k = jn x ⟨#[c]⟩ (k + 1) from rfl)
              obtain ⟨p, hp⟩ : ∃ p, p = jn x ⟨#[c]⟩ k := ⟨_, rfl⟩
              obtain ⟨q, hq⟩ : ∃ q, q = jnM x ⟨#[c]⟩ k := ⟨_, rfl⟩
              obtain ⟨r, hr⟩ : ∃ r, r = jn x ⟨#[c]⟩ (k + 1) := ⟨_, rfl⟩
              rw [← hp] at HSZ HJ
              rw [← hq] at HJ HJ2 HZ1
              rw [← hr] at HJ2 HZ2
              rw [← hp]
              have HR := Lib.hid hr
              have a1 : ∀ w, (Op.stringOp .add p ⟨#[c]⟩).run Try.prog w = .ok (.string q) w := fun w => by rw [HJ.out]; exact run_string_add_sum (P := Try.prog) (w := w) p ⟨#[c]⟩ (by have := HSZ.out; show p.size + 1 ≤ _; omega)
              have a2 : ∀ w, (Op.stringOp .add q (x k)).run Try.prog w = .ok (.string r) w := fun w => by rw [← HJ2.out]; exact run_string_add_sum (P := Try.prog) (w := w) q (x k) (by have := HZ1.out; have := HK.out; have := HNN.out; have := szs_mono x (show k ≤ n by omega); omega)
              clear hp hq hr
              by_cases h4 : r.size ≤ 4000
              · have d4 : decide ((4000 : Int) < (r.size : Int)) = false := by simp; omega
                have H4 := Lib.hid h4
                clear h4
                go_wp2
                refine wp_region_grown_lit (by kernel_rfl) (by kernel_rfl) ?_
                repeat (first | go_big_quiet_skip | (go_big_quiet_want; (first | (refine grown_load_str 9 _ rfl rfl (C0.out) Try.isAgg9 ?_; simp only [Act.put, List.setIfInBounds_toArray, List.set_cons_succ, List.set_cons_zero]; go_big_quiet_on) | (go_big_quiet_op; (first | go_big_quiet_on | (refine ⟨_, fun _ _ => rfl, ?_⟩; go_big_quiet_on) | (apply Exists.intro; refine ⟨fun _ hC => ?_, ?_⟩; (first | (go_at_call 18; exact grown_same hC (HST.out _))); go_big_quiet_on))))))
                refine wpQuiet_nil ?_
                intro wg hg
                have HB3 := Lib.hid (HB.out.trans (hg.below.mono HB.out.size))
                have c1 := (H.out.below HB3.out H.out.lt).cell hlt
                clear hg c0
                go_wp2
                go_roundw
                case rel => exact ⟨k + 1, by omega, by go_num, by rw [HR.out], HO2.out, .inr (by rw [← HR.out]; exact H4.out), HB3.out⟩
                case measure => simp [intOf]; omega
              · have d4 : decide ((4000 : Int) < (r.size : Int)) = true := by simp; omega
                have G := Lib.hid (show joinB n x ⟨#[c]⟩ = false by
                  unfold joinB
                  rw [decide_eq_false (show ¬ (szs x n + (n - 1) ≤ 4000) by have := HZ2.out; have := szs_mono x (show k + 1 ≤ n by omega); omega)]
                  simp)
                have HV := Lib.hid (show joinV n x ⟨#[c]⟩ = ⟨#[]⟩ by unfold joinV; rw [G.out]; rfl)
                clear h4
                go_wp2
                refine wp_region_grown_lit (by kernel_rfl) (by kernel_rfl) ?_
                repeat (first | go_big_quiet_skip | (go_big_quiet_want; (first | (refine grown_load_str 9 _ rfl rfl (C0.out) Try.isAgg9 ?_; simp only [Act.put, List.setIfInBounds_toArray, List.set_cons_succ, List.set_cons_zero]; go_big_quiet_on) | (go_big_quiet_op; (first | go_big_quiet_on | (refine ⟨_, fun _ _ => rfl, ?_⟩; go_big_quiet_on) | (apply Exists.intro; refine ⟨fun _ hC => ?_, ?_⟩; (first | (go_at_call 18; exact grown_same hC (HST.out _))); go_big_quiet_on))))))
                refine wpQuiet_nil ?_
                intro wg hg
                have HB3 := Lib.hid (HB.out.trans (hg.below.mono HB.out.size))
                have c1 := (H.out.below HB3.out H.out.lt).cell hlt
                clear hg c0
                go_wp2
                go_ret2
                exact ⟨by rw [HV.out, G.out]; rfl, HB3.out⟩
            · obtain rfl : k = 0 := by omega
              have d2 : decide ((0 : Nat) < 0) = false := by simp
              have HJ2 := Lib.hid (show (⟨#[]⟩ : ByteArray) ++ x 0 = jn x ⟨#[c]⟩ 1 from rfl)
              obtain ⟨r, hr⟩ : ∃ r, r = jn x ⟨#[c]⟩ 1 := ⟨_, rfl⟩
              rw [Nat.zero_add, ← hr] at HZ2
              rw [← hr] at HJ2
              have HR := Lib.hid hr
              have a2 : ∀ w, (Op.stringOp .add ⟨#[]⟩ (x 0)).run Try.prog w = .ok (.string r) w := fun w => by rw [← HJ2.out]; exact run_string_add_sum (P := Try.prog) (w := w) ⟨#[]⟩ (x 0) (by have := HK.out; show 0 + (x 0).size ≤ _; omega)
              have HP := Lib.hid (show jn x ⟨#[c]⟩ 0 = ⟨#[]⟩ from rfl)
              rw [HP.out]
              clear hr
              by_cases h4 : r.size ≤ 4000
              · have d4 : decide ((4000 : Int) < (r.size : Int)) = false := by simp; omega
                have H4 := Lib.hid h4
                clear h4
                go_wp2
                refine wp_region_grown_lit (by kernel_rfl) (by kernel_rfl) ?_
                repeat (first | go_big_quiet_skip | (go_big_quiet_want; (first | (refine grown_load_str 9 _ rfl rfl (C0.out) Try.isAgg9 ?_; simp only [Act.put, List.setIfInBounds_toArray, List.set_cons_succ, List.set_cons_zero]; go_big_quiet_on) | (go_big_quiet_op; (first | go_big_quiet_on | (refine ⟨_, fun _ _ => rfl, ?_⟩; go_big_quiet_on) | (apply Exists.intro; refine ⟨fun _ hC => ?_, ?_⟩; (first | (go_at_call 18; exact grown_same hC (HST.out _))); go_big_quiet_on))))))
                refine wpQuiet_nil ?_
                intro wg hg
                have HB3 := Lib.hid (HB.out.trans (hg.below.mono HB.out.size))
                have c1 := (H.out.below HB3.out H.out.lt).cell hlt
                clear hg c0
                go_wp2
                go_roundw
                case rel => exact ⟨1, by omega, by go_num, by rw [HR.out], HO2.out, .inr (by rw [← HR.out]; exact H4.out), HB3.out⟩
                case measure => simp [intOf]; omega
              · have d4 : decide ((4000 : Int) < (r.size : Int)) = true := by simp; omega
                have G := Lib.hid (show joinB n x ⟨#[c]⟩ = false by
                  unfold joinB
                  rw [decide_eq_false (show ¬ (szs x n + (n - 1) ≤ 4000) by have := HZ2.out; have := szs_mono x (show 1 ≤ n by omega); omega)]
                  simp)
                have HV := Lib.hid (show joinV n x ⟨#[c]⟩ = ⟨#[]⟩ by unfold joinV; rw [G.out]; rfl)
                clear h4
                go_wp2
                refine wp_region_grown_lit (by kernel_rfl) (by kernel_rfl) ?_
                repeat (first | go_big_quiet_skip | (go_big_quiet_want; (first | (refine grown_load_str 9 _ rfl rfl (C0.out) Try.isAgg9 ?_; simp only [Act.put, List.setIfInBounds_toArray, List.set_cons_succ, List.set_cons_zero]; go_big_quiet_on) | (go_big_quiet_op; (first | go_big_quiet_on | (refine ⟨_, fun _ _ => rfl, ?_⟩; go_big_quiet_on) | (apply Exists.intro; refine ⟨fun _ hC => ?_, ?_⟩; (first | (go_at_call 18; exact grown_same hC (HST.out _))); go_big_quiet_on))))))
                refine wpQuiet_nil ?_
                intro wg hg
                have HB3 := Lib.hid (HB.out.trans (hg.below.mono HB.out.size))
                have c1 := (H.out.below HB3.out H.out.lt).cell hlt
                clear hg c0
                go_wp2
                go_ret2
                exact ⟨by rw [HV.out, G.out]; rfl, HB3.out⟩
          · have HST := Lib.hid (fun w => stands_any (x k) c HK.out w)
            rw [hc] at HST
            have G := Lib.hid (show joinB n x ⟨#[c]⟩ = false by
              unfold joinB
              rw [allB_false hlt (show (!hasC c (x k)) = false by rw [hc]; rfl)]
              simp)
            have HV := Lib.hid (show joinV n x ⟨#[c]⟩ = ⟨#[]⟩ by unfold joinV; rw [G.out]; rfl)
            clear hc
            go_wp2
            refine wp_region_grown_lit (by kernel_rfl) (by kernel_rfl) ?_
            repeat (first | go_big_quiet_skip | (go_big_quiet_want; (first | (refine grown_load_str 9 _ rfl rfl (C0.out) Try.isAgg9 ?_; simp only [Act.put, List.setIfInBounds_toArray, List.set_cons_succ, List.set_cons_zero]; go_big_quiet_on) | (go_big_quiet_op; (first | go_big_quiet_on | (refine ⟨_, fun _ _ => rfl, ?_⟩; go_big_quiet_on) | (apply Exists.intro; refine ⟨fun _ hC => ?_, ?_⟩; (first | (go_at_call 18; exact grown_same hC (HST.out _))); go_big_quiet_on))))))
            refine wpQuiet_nil ?_
            intro wg hg
            have HB3 := Lib.hid (HB.out.trans (hg.below.mono HB.out.size))
            clear hg c0
            go_wp2
            go_ret2
            exact ⟨by rw [HV.out, G.out]; rfl, HB3.out⟩
        · have d1 : decide (k < n) = false := by simp; omega
          obtain rfl : k = n := by omega
          have G := Lib.hid (show joinB k x ⟨#[c]⟩ = true by
            have h3 := jn_size x (sep := ⟨#[c]⟩) rfl k
            have h4 := HSZ.out
            unfold joinB
            rw [decide_eq_true h2, decide_eq_true (show szs x k + (k - 1) ≤ 4000 by omega), show allB (fun i => !hasC ((⟨#[c]⟩ : ByteArray).data.getD 0 0) (x i)) k = true from (allB_iff _ _).2 (fun j hj => show (!hasC c (x j)) = true by rw [HO.out j hj]; rfl)]
            rfl)
          have HV := Lib.hid (show joinV k x ⟨#[c]⟩ = jn x ⟨#[c]⟩ k by unfold joinV; rw [G.out]; rfl)
          go_wp2
          go_ret2
          exact ⟨by rw [HV.out, G.out]; rfl, HB.out⟩
    · obtain rfl : n = 0 := by omega
      have G := Lib.hid (show joinB 0 x ⟨#[c]⟩ = false from rfl)
      have HV := Lib.hid (show joinV 0 x ⟨#[c]⟩ = ⟨#[]⟩ from rfl)
      clear h1
      go_enter Try.func12, Try.ntmps12
      go_wp2
      go_ret2
      exact ⟨by rw [HV.out, G.out]; rfl, Below.refl _ _⟩
  · have G := Lib.hid (show joinB n x sep = false by unfold joinB; rw [decide_eq_false h1]; simp)
    have HV := Lib.hid (show joinV n x sep = ⟨#[]⟩ by unfold joinV; rw [G.out]; rfl)
    have d1 : ((sep.size : Int) != 1) = true := by simp; omega
    go_enter Try.func12, Try.ntmps12
    go_wp2
    go_ret2
    exact ⟨by rw [HV.out, G.out]; rfl, Below.refl _ _⟩
end Go.Proofs.Ythjfnfhadgmglaa
