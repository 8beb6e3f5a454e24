/- OneLike, the program's side. -/
import Derived.Test.YtiibpnhjdfjdkaaOne
import Derived.Test.YtiibpnhjdfjdkaaTable3
import Derived.Test.YtiibpnhjdfjdkaaSpread
set_option linter.unusedVariables false
set_option linter.unusedSimpArgs false
set_option linter.unusedSectionVars false
namespace Go.Proofs.Ytiibpnhjdfjdkaa
open Go.RowKit
theorem idx31w (f : Nat → Int) (k : Nat) (hk : k < 31) (w : World) : (Instr.index 76 (.agg (row 31 (I f))) (.int .i64 (k : Int))).run Try.prog w = .ok (.int .i64 (f k)) w := by
  have h1 : ∀ w, (sizeOf 3).run Try.prog w = .ok 1 w := fun _ => by kernel_rfl
  have h2 : ∀ w, (isAgg 3).run Try.prog w = .ok false w := fun _ => by kernel_rfl
  have h4 : (row 31 (I f))[k]? = some (.int .i64 (f k)) := row_get hk
  have h5 : (0 : Int) ≤ (k : Int) ∧ (k : Int) < 31 := by omega
  simp [Instr.index, run_underlying Try.underlying76, asIntOf, h1, h2, part, h4, h5, go_sem]
  intro h
  omega
set_option maxHeartbeats 1000000 in
theorem die_any (u : Nat → Nat) (S : Nat) (hL : lenF u S 31 ≤ 6) (w : World) : Calls Try.prog 82 #[.agg (row 31 (I fun j => ((u j / S : Nat) : Int)))] w fun e w' => e = .returned (.agg (row 6 (I fun i => if i < lenF u S 31 then fcF u S i else 0))) ∧ Below w.heap.size w w' := by
  have HL := Lib.hid hL; clear hL
  obtain ⟨q, hq⟩ : ∃ q : Nat → Nat, q = fun j => u j / S := ⟨_, rfl⟩
  have HQ := Lib.hid (fun j => show q j = u j / S by rw [hq])
  have e : (fun j => ((u j / S : Nat) : Int)) = fun j => (q j : Int) := by rw [hq]
  rw [e]
  clear e hq
  go_enter Try.func82, Try.ntmps82
  go_wp2_with (first | (refine wpList_alloc_blk rfl 22 rfl zero6 ?_) | (refine wpList_alloc_blk rfl 22 rfl zero6 ?_) | (refine wpList_load_blk rfl 76 _ rfl ((((Blk.new _ _ _ _).alloc _).alloc _)) rfl Try.underlying76 sz31 ?_) | fail)
  generalize hW : (((w.alloc (.cells (row 31 (I fun j => (q j : Int))) 76)).alloc (.cells (row 6 (I fun _ => 0)) 22)).alloc (.cells (row 6 (I fun _ => 0)) 22)) = W0
  have R0 := Lib.hid (show Blk W0 (w.heap.size + 1) 6 22 (I fun _ => 0) from hW ▸ (Blk.newS (by simp)).alloc _)
  have O0 := Lib.hid (show Blk W0 (w.heap.size + 1 + 1) 6 22 (I fun i => if i < lenF u S 0 + 0 then fcF u S i else 0) from hW ▸ (Blk.newS (by simp) : Blk _ _ _ _ (I fun _ => 0)).ext (fun i _ => by simp [I, lenF]))
  have HB0 := Lib.hid (show Below w.heap.size w W0 from hW ▸ (((Below.refl _ _).alloc (by omega) _).alloc (by simp) _).alloc (by simp; omega) _)
  clear hW
  go_loopw [4, 8] (fun a i wr => ∃ k : Nat, k ≤ 31 ∧ i = .int .i64 (k : Int) ∧ a = .int .i64 ((lenF u S k : Nat) : Int) ∧ Blk wr (w.heap.size + 1) 6 22 (I fun _ => 0) ∧ Blk wr (w.heap.size + 1 + 1) 6 22 (I fun i => if i < lenF u S k + 0 then fcF u S i else 0) ∧ Below w.heap.size w wr) (fun a i _ => 31 - (intOf i).toNat)
  case atStart => exact ⟨0, by omega, rfl, rfl, R0.out, O0.out, HB0.out⟩
  case round =>
    obtain ⟨k, hk, rfl, rfl, hR, hO, hb⟩ := hrel
    clear R0 O0 HB0
    have R1 := Lib.hid hR; have O1 := Lib.hid hO; have HB1 := Lib.hid hb
    clear hR hO hb
    obtain ⟨l, hl⟩ : ∃ l, l = lenF u S k := ⟨_, rfl⟩
    have HLK := Lib.hid hl
    rw [← hl] at O1
    rw [← hl]
    by_cases hlt : k < 31
    · have d0 : decide ((k : Int) < 31) = true := by simp; omega
      have HN := Lib.hid (show lenF u S (k + 1) = l + q k by rw [hl, HQ.out k]; rfl)
      have hle : l + q k ≤ 6 := by rw [← HN.out]; exact Nat.le_trans (lenF_mono u S 31 (by omega)) HL.out
      have HF := Lib.hid (fun m (hm : m < q k) => show fcF u S (l + m) = (k : Int) by rw [hl]; exact fcF_at (by omega) (by rw [← HQ.out k]; exact hm))
      clear hl
      go_wp2_with (first | (((with_reducible apply wpList_indexv); (case hw => rfl); (case ho => rfl); (case hx => rfl); (case hy => rfl); (case hr => exact idx31w _ k hlt))) | fail)
      go_loopw [4, 13] (fun a i wr => ∃ m : Nat, m ≤ q k ∧ i = .int .i64 (m : Int) ∧ a = .int .i64 ((l + m : Nat) : Int) ∧ Blk wr (w.heap.size + 1) 6 22 (I fun _ => 0) ∧ Blk wr (w.heap.size + 1 + 1) 6 22 (I fun i => if i < l + m then fcF u S i else 0) ∧ Below w.heap.size w wr) (fun a i _ => q k - (intOf i).toNat)
      case atStart => exact ⟨0, by omega, rfl, rfl, R1.out, O1.out, HB1.out⟩
      case round =>
        obtain ⟨m, hm, rfl, rfl, hR, hO, hb⟩ := hrel
        clear R1 O1 HB1
        have R2 := Lib.hid hR; have O2 := Lib.hid hO; have HB2 := Lib.hid hb
        clear hR hO hb
        by_cases hlm : m < q k
        · have d1 : decide ((m : Int) < (q k : Int)) = true := by simp; omega
          have f1 : wr.frozen? ⟨w.heap.size + 1 + 1, l + m, none⟩ = false := O2.out.free _
          have c1 : wr.cell? ⟨w.heap.size + 1 + 1, l + m, none⟩ = some (.int .i64 0) := by rw [O2.out.cell (by omega)]; simp only [I]; rw [if_neg (by omega)]
          have HFm := Lib.hid (HF.out m hlm)
          go_wp2
          go_roundw
          case rel => exact ⟨m + 1, by omega, by go_num, by go_num, R2.out.other _ _ (by simp), (O2.out.set (by omega) _).ext (fun i _ => by
            simp only [I, upd]
            by_cases e : i = l + m
            · rw [if_pos e, if_pos (by omega), e, HFm.out]
            · rw [if_neg e]
              by_cases e2 : i < l + m
              · rw [if_pos e2, if_pos (by omega)]
              · rw [if_neg e2, if_neg (by omega)]), HB2.out.setCell (by simp; omega) _⟩
          case measure => simp [intOf]; omega
        · have d1 : decide ((m : Int) < (q k : Int)) = false := by simp; omega
          obtain rfl : m = q k := by omega
          go_wp2
          go_roundw
          case rel => exact ⟨k + 1, by omega, by go_num, by rw [HN.out], R2.out, by rw [HN.out]; exact O2.out, HB2.out⟩
          case measure => simp [intOf]; omega
    · have d0 : decide ((k : Int) < 31) = false := by simp; omega
      obtain rfl : k = 31 := by omega
      clear hl
      go_wp2_with (first | ((with_reducible apply wpList_load_blk); (case hw => rfl); (case ho => rfl); (case hx => rfl); (case hb => with_reducible exact O1.out); (case hu => exact Try.underlying22); (case hi => exact sz6)) | (refine wpList_store_blk rfl 22 _ _ rfl (R1.out) rfl rfl sz6 (fun _ _ => rfl) ?_) | fail)
      exact post_blk rfl (R1.out.setRow _) rfl Try.underlying22 sz6 rfl ⟨by rw [HLK.out]; rfl, below_setRow HB1.out (by (focus (first | omega | (simp; done) | (simp; omega)))) _⟩
end Go.Proofs.Ytiibpnhjdfjdkaa
