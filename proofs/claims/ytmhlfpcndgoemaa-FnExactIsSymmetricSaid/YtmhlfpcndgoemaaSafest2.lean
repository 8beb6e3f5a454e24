/- Contracts of functions of this program, used by the laws of this seat. No condition beyond what each theorem states. -/
import Derived.Test.YtmhlfpcndgoemaaSafest
set_option linter.unusedVariables false
set_option linter.unusedSimpArgs false
set_option linter.unusedSectionVars false
namespace Go.Proofs.Ytmhlfpcndgoemaa
open Go.RowKit
theorem wpList_index {P : Program} {ops : Array Oper} {rest : List Oper} {o : Oper} {a : Act} {w : World} {Q : Exit → Act → World → Prop} (hw : Region.wanted o (yielded ops a.tmps) = true) {ty : TypeId} {p : Operand} (ho : o.op = .index ty p (.const (.int .i64 0))) {V r : Value}
    (hx : a.eval p = V) (hr : ∀ w, (Instr.index ty V (.int .i64 0)).run P w = .ok r w) (h : wpList P ops Q rest (a.put o.dst r) w) : wpList P ops Q (o :: rest) a w := by
  have hc : a.eval (.const (.int .i64 0)) = .int .i64 0 := rfl
  unfold wpList
  rw [if_pos hw]
  left
  unfold Oper.wp execOp
  simp only [ho, hx, hc, Sem.run_bind, Sem.run_pure, hr, Result.andThen_ok]
  exact h
theorem wpList_index3 {ops : Array Oper} {rest : List Oper} {o : Oper} {a : Act} {w : World} {Q : Exit → Act → World → Prop} (hw : Region.wanted o (yielded ops a.tmps) = true) {p : Operand} (ho : o.op = .index 47 p (.const (.int .i64 0))) {f : Nat → Int}
    (hx : a.eval p = .agg (row 3 (I f))) (h : wpList Try.prog ops Q rest (a.put o.dst (.int .i64 (f 0))) w) : wpList Try.prog ops Q (o :: rest) a w := wpList_index hw ho hx (idx3 f) h
theorem min_two (a b : Int) : (if a < b then a else b) = if b < a then b else a := by
  by_cases h1 : b < a
  · rw [if_neg (by omega), if_pos h1]
  · rw [if_neg h1]
    by_cases h2 : a < b
    · rw [if_pos h2]
    · rw [if_neg h2]; omega
set_option maxHeartbeats 1000000 in
theorem iSafestOf_any (o : Option Addr) (n c : Nat) (x : Nat → Nat → Int) (hn : n ≤ 1048576) (w : World) (h : PoolAt w o n x) : Calls Try.prog 106 #[poolV o n c] w fun e w' => e = .returned (.tuple #[.int .i64 (safeV n x).1, .int .i64 (safeV n x).2, .bool (rowB n x)]) ∧ Below w.heap.size w w' := by
  have H := Lib.hid h; clear h
  unfold safeV
  cases g : rowB n x
  · go_enter Try.func106, Try.ntmps106
    go_wp2_with fail
    go_at_call 159
    refine (isRow_any o n c x hn _ H.out).mono ?_
    rintro e w1 ⟨rfl, hb1⟩
    have HB1 := Lib.hid hb1; clear hb1
    rw [g]
    go_wp2
    go_ret3
    exact ⟨rfl, HB1.out⟩
  · obtain ⟨n1, n6⟩ := row_le g
    go_enter Try.func106, Try.ntmps106
    go_wp2_with fail
    go_at_call 159
    refine (isRow_any o n c x hn _ H.out).mono ?_
    rintro e w1 ⟨rfl, hb1⟩
    have HB1 := Lib.hid hb1; clear hb1
    rw [g]
    clear g
    go_wp2
    go_loopw [5, 6, 17] (fun best most i wr => ∃ k : Nat, k ≤ n ∧ i = .int .i64 k ∧ best = .int .i64 (safeF x n k).1 ∧ most = .int .i64 (safeF x n k).2 ∧ Below w.heap.size w wr) (fun best most i _ => n - (intOf i).toNat)
    case atStart => exact ⟨0, by omega, rfl, rfl, rfl, HB1.out⟩
    case round =>
      obtain ⟨i, hi, rfl, rfl, rfl, hb⟩ := hrel
      have HB := Lib.hid hb
      clear hb HB1
      by_cases hlt : i < n
      · have d0 : decide ((i : Int) < (n : Int)) = true := by simp; omega
        obtain ⟨wo, rfl⟩ : ∃ wo : World, wo = wr := ⟨_, rfl⟩
        obtain ⟨a1, rfl, hd⟩ := dice6 (H.out.below HB.out) hlt
        have HC := Lib.hid (hd i hlt).2
        clear hd
        go_wp2_with (first | (refine wpList_load_cells rfl 22 _ rfl rfl (HC.out) Try.isAgg22 sz6 ?_) | (refine wpList_alloc_blk rfl 22 rfl zero6 ?_) | (((with_reducible apply wpList_store_new); (case hw => rfl); (case ho => rfl); (case hx => rfl); (case hy => rfl); (case hg => rfl); (case hi => exact sz6); (case h1 => exact fun _ _ => rfl))) | fail)
        go_loopw [9, 24] (fun least v wr => ∃ k : Nat, k ≤ n ∧ v = .int .i64 k ∧ least = .int .i64 (leastF x i k) ∧ Blk wr wo.heap.size 6 22 (I (x i)) ∧ Below w.heap.size w wr) (fun least v _ => n - (intOf v).toNat)
        case atStart => exact ⟨0, by omega, rfl, rfl, Blk.new _ _ _ _, HB.out.alloc HB.out.size _⟩
        case round =>
          obtain ⟨k, hk, rfl, rfl, hA, hb⟩ := hrel
          have HA := Lib.hid hA
          have HB2 := Lib.hid hb
          clear hA hb HC
          by_cases hlk : k < n
          · have d1 : decide ((k : Int) < (n : Int)) = true := by simp; omega
            obtain ⟨a2, h2, hd⟩ := dice6 (H.out.below HB2.out) hlk
            obtain rfl : a1 = a2 := Option.some.inj h2
            have HC := Lib.hid (hd k hlk).2
            clear hd h2
            by_cases he : k = i
            · obtain rfl := he
              have d2 : ((k : Int) != (k : Int)) = false := by simp
              have HL := Lib.hid (show leastF x k (k + 1) = leastF x k k by simp [leastF])
              go_wp2_with (first | ((with_reducible apply wpList_load_cells); (case hw => rfl); (case ho => rfl); (case hx => rfl); (case hc => with_reducible exact HC.out); (case ha => exact Try.isAgg22); (case hi => exact sz6)) | (refine wpList_alloc_blk rfl 22 rfl zero6 ?_) | (((with_reducible apply wpList_store_new); (case hw => rfl); (case ho => rfl); (case hx => rfl); (case hy => rfl); (case hg => rfl); (case hi => exact sz6); (case h1 => exact fun _ _ => rfl))) | fail)
              go_roundw
              case rel => exact ⟨k + 1, by omega, by go_num, by rw [HL.out], HA.out.alloc _, HB2.out.alloc HB2.out.size _⟩
              case measure => simp [intOf]; omega
            · have d2 : ((k : Int) != (i : Int)) = true := by simp; omega
              have HL := Lib.hid (show leastF x i (k + 1) = if cmpAll (x i) (x k) 6 0 < leastF x i k then cmpAll (x i) (x k) 6 0 else leastF x i k by
                simp only [leastF, he, if_false]; exact min_two _ _)
              go_wp2_with (first | ((with_reducible apply wpList_load_cells); (case hw => rfl); (case ho => rfl); (case hx => rfl); (case hc => with_reducible exact HC.out); (case ha => exact Try.isAgg22); (case hi => exact sz6)) | (refine wpList_alloc_blk rfl 22 rfl zero6 ?_) | (((with_reducible apply wpList_store_new); (case hw => rfl); (case ho => rfl); (case hx => rfl); (case hy => rfl); (case hg => rfl); (case hi => exact sz6); (case h1 => exact fun _ _ => rfl))) | ((with_reducible apply wpList_load_blk); (case hw => rfl); (case ho => rfl); (case hx => rfl); (case hb => with_reducible exact HA.out.alloc _); (case hu => exact Try.underlying22); (case hi => exact sz6)) | ((with_reducible apply wpList_load_blk); (case hw => rfl); (case ho => rfl); (case hx => rfl); (case hb => with_reducible exact Blk.new _ _ _ _); (case hu => exact Try.underlying22); (case hi => exact sz6)) | fail)
              go_at_call 145
              refine (compared_any (x i) (x k) _).mono ?_
              rintro e w2 ⟨rfl, hb2⟩
              have HA2 := Lib.hid ((HA.out.alloc _).below hb2 (by have := HA.out.lt; simp; omega))
              have HB3 := Lib.hid ((HB2.out.alloc HB2.out.size _).trans (hb2.mono (by have := HB2.out.size; simp; omega)))
              clear hb2
              go_wp2_with (first | (((with_reducible apply wpList_index3); (case hw => rfl); (case ho => rfl); (case hx => rfl))) | fail)
              go_roundw
              case rel => exact ⟨k + 1, by omega, by go_num, by rw [HL.out], HA2.out, HB3.out⟩
              case measure => simp [intOf]; omega
          · obtain rfl : k = n := by omega
            have d1 : decide ((k : Int) < (k : Int)) = false := by simp
            by_cases hm : (safeF x k i).2 < leastF x i k
            · have HL := Lib.hid (show safeF x k (i + 1) = ((i : Int), leastF x i k) by simp [safeF, hm])
              have d3 : decide ((safeF x k i).2 < leastF x i k) = true := by simp [hm]
              clear hm
              go_wp2
              go_roundw
              case rel => exact ⟨i + 1, by omega, by go_num, by rw [HL.out], by rw [HL.out], HB2.out⟩
              case measure => simp [intOf]; omega
            · have HL := Lib.hid (show safeF x k (i + 1) = safeF x k i by simp [safeF, hm])
              have d3 : decide ((safeF x k i).2 < leastF x i k) = false := by simp; omega
              clear hm
              go_wp2
              go_roundw
              case rel => exact ⟨i + 1, by omega, by go_num, by rw [HL.out], by rw [HL.out], HB2.out⟩
              case measure => simp [intOf]; omega
      · have e0 : i = n := by omega
        have d0 : decide ((i : Int) < (n : Int)) = false := by simp; omega
        go_wp2
        go_ret3
        exact ⟨rfl, HB.out⟩
end Go.Proofs.Ytmhlfpcndgoemaa
