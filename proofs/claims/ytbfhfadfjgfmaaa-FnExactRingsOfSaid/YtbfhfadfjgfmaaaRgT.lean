/- The program's RingsOf. -/
import Derived.Test.YtbfhfadfjgfmaaaRgG
import Derived.Test.YtbfhfadfjgfmaaaSorts
import Derived.Test.YtbfhfadfjgfmaaaKept
set_option linter.unusedVariables false
set_option linter.unusedSimpArgs false
set_option linter.unusedSectionVars false
namespace Go.Proofs.Ytbfhfadfjgfmaaa
open Go.RowKit
theorem range_flat {α : Type} (f : Nat → List α) (k : Nat) : (List.range (k + 1)).flatMap f = (List.range k).flatMap f ++ f k := by
  rw [List.range_succ, List.flatMap_append]; simp
theorem range_flat_le {α : Type} (f : Nat → List α) {k : Nat} : ∀ n, k ≤ n → ((List.range k).flatMap f).length ≤ ((List.range n).flatMap f).length
  | 0, h => by obtain rfl : k = 0 := by omega
               exact Nat.le_refl _
  | n + 1, h => by
    by_cases e : k = n + 1
    · subst e; exact Nat.le_refl _
    · have := range_flat_le f (k := k) n (by omega)
      rw [range_flat, List.length_append]; omega
theorem allI_short {n : Nat} {B : Nat → Nat → Bool} (h : n ≤ 6) (i : Nat) : gLen (allI n B) i ≤ 1000 := by
  unfold gLen
  by_cases hi : i < (allI n B).length
  · rw [List.getD_eq_getElem?_getD, List.getElem?_eq_getElem hi]
    have := allR_len ((all_perm n B).mem_iff.1 (List.getElem_mem hi))
    simp only [Option.getD_some]
    omega
  · rw [List.getD_eq_getElem?_getD, List.getElem?_eq_none (by omega)]; simp
noncomputable def rgL (n : Nat) (x : Nat → Nat → Int) : List (List Nat) := if rowB n x then allR n (Bt x) else []
noncomputable def rgN (n : Nat) (x : Nat → Nat → Int) : Nat := (rgL n x).length
set_option maxRecDepth 100000 in
set_option maxHeartbeats 4000000 in
theorem iRingsOf_list (o : Option Addr) (n c : Nat) (x : Nat → Nat → Int) (hn : n ≤ 1048576) (w : World) (h : PoolAt w o n x) : Calls Try.prog 32 #[poolV o n c] w fun e w' => ∃ A cp ad, e = .returned (.tuple #[.slice A (rgN n x) cp, .bool (rowB n x)]) ∧ GridL w' w.heap.size A (rgN n x) cp ad (rgL n x) ∧ Below w.heap.size w w' := by
  have H := Lib.hid h; clear h
  cases g : rowB n x
  · have HV := Lib.hid (show rgL n x = [] by unfold rgL; rw [g]; rfl)
    have HN := Lib.hid (show rgN n x = 0 by unfold rgN; rw [HV.out]; rfl)
    rw [HV.out, HN.out]
    go_enter Try.func32, Try.ntmps32
    go_wp2_with fail
    go_at_call 66
    refine (isRow_any o n c x hn _ (H.out.alloc _)).mono ?_
    rintro e w1 ⟨rfl, hb1⟩
    have HB1 := Lib.hid hb1; clear hb1
    have HB1 := Lib.hid (((Below.refl w.heap.size w).alloc (Nat.le_refl _) _).trans (HB1.out.mono (by simp)))
    rw [g]
    go_wp2
    go_ret2
    exact ⟨none, 0, fun _ => (none, 0), rfl, GridL.nil _ _ _, HB1.out⟩
  · obtain ⟨n1, n6⟩ := row_le g
    have HV := Lib.hid (show rgL n x = allR n (Bt x) by unfold rgL; rw [g]; rfl)
    go_enter Try.func32, Try.ntmps32
    go_wp2_with fail
    go_at_call 66
    refine (isRow_any o n c x hn _ (H.out.alloc _)).mono ?_
    rintro e w1 ⟨rfl, hb1⟩
    have HB1 := Lib.hid hb1; clear hb1
    have cR1 : w1.cell? ⟨w.heap.size, 0, none⟩ = some (poolV o n c) := (Below.cell HB1.out (by simp)).trans (by simp)
    have HB0 := Lib.hid (((Below.refl w.heap.size w).alloc (Nat.le_refl _) (.cells #[poolV o n c] 22)).trans (HB1.out.mono (by simp)))
    have HS1 := Lib.hid (show w.heap.size < w1.heap.size by have := HB1.out.size; simp at this; omega)
    have P1 := Lib.hid ((H.out.alloc (.cells #[poolV o n c] 22)).below HB1.out)
    have HPB := Lib.hid (fun a (ha : o = some a) => show a.block < w.heap.size from pool_lt H.out n1 a ha)
    obtain ⟨N1, hN1⟩ : ∃ N1, N1 = w1.heap.size := ⟨_, rfl⟩
    have c2 : ((w1.alloc (.cells #[.slice none 0 0] 47)).alloc (.cells #[.nilFunc] 76)).cell? ⟨w1.heap.size + 1, 0, none⟩ = some .nilFunc := (Blk.newAt (n := 1) (f := fun _ => .nilFunc) (by simp) rfl).cell (by omega)
    have f2 : ((w1.alloc (.cells #[.slice none 0 0] 47)).alloc (.cells #[.nilFunc] 76)).frozen? ⟨w1.heap.size + 1, 0, none⟩ = false := (Blk.newAt (n := 1) (f := fun _ => .nilFunc) (by simp) rfl).free _
    obtain ⟨W3, hW3⟩ : ∃ W3, W3 = (w1.alloc (.cells #[.slice none 0 0] 47)).alloc (.cells #[growV w.heap.size w1.heap.size (w1.heap.size + 1)] 76) := ⟨_, rfl⟩
    have BL3 := Lib.hid (show Below w1.heap.size w1 W3 by rw [hW3]; exact ((Below.refl _ _).alloc (Nat.le_refl _) _).alloc (by simp) _)
    have O3 := Lib.hid (show Blk W3 w1.heap.size 1 47 (fun _ => .slice none 0 0) by rw [hW3]; exact ((Blk.newAt (n := 1) (f := fun _ => .slice none 0 0) (w := w1) (cs := #[.slice none 0 0]) rfl rfl).alloc _))
    have G3 := Lib.hid (show W3.cell? ⟨w1.heap.size + 1, 0, none⟩ = some (growV w.heap.size w1.heap.size (w1.heap.size + 1)) by
      rw [hW3]
      exact (Blk.newAt (n := 1) (f := fun _ => growV w.heap.size w1.heap.size (w1.heap.size + 1)) (T := 76) (by simp) rfl).cell (i := 0) (by omega))
    have Z3 := Lib.hid (show W3.heap.size = w1.heap.size + 2 by rw [hW3]; simp)
    have cR3 : ((w1.alloc (.cells #[.slice none 0 0] 47)).alloc (.cells #[growV w.heap.size w1.heap.size (w1.heap.size + 1)] 76)).cell? ⟨w.heap.size, 0, none⟩ = some (poolV o n c) := by
      rw [← hW3]
      exact (Below.cell BL3.out (World.block_lt_of_cell? _ _ cR1)).trans cR1
    have hst : ∀ (a : Addr) (fn : Fn) (first cap : Array Value) (m : Mode) (w : World), (store a (.func fn first cap) m).run Try.prog w = stored Try.prog w a (.func fn first cap) m := fun a fn f c m w => run_store _ w a _ m rfl
    have R3 := Lib.hid (show W3.cell? ⟨w.heap.size, 0, none⟩ = some (poolV o n c) from (Below.cell BL3.out (World.block_lt_of_cell? _ _ cR1)).trans cR1)
    have P3 := Lib.hid (P1.out.below BL3.out)
    have HW3 := Lib.hid hW3
    rw [g]
    clear g hW3 hN1 cR1
    go_wp2
    have cG3 := G3.out
    rw [← HW3.out]
    clear c2 f2 cR3 hst cG3
    go_loopw [13] (fun i wr => ∃ k : Nat, k ≤ n ∧ i = .int .i64 (k : Int) ∧ GrowR n (w1.heap.size + 2) w1.heap.size ((List.range k).flatMap fun i => ringsI n (Bt x) (n + 1) [i]) W3 wr) (fun i _ => n - (intOf i).toNat)
    case atStart => exact ⟨0, by omega, rfl, none, 0, 0, fun _ => (none, 0), O3.out, GridL.nil _ _ _, Step.refl _⟩
    case round =>
      obtain ⟨k, hk, rfl, A4, m4, c4, ad4, hO4, hG4, hS4⟩ := hrel
      have O4 := Lib.hid hO4; have G4 := Lib.hid hG4; have ST4 := Lib.hid hS4
      clear hO4 hG4 hS4
      have R4 := Lib.hid (ST4.out.cell R3.out (by have := HS1.out; omega) (by have := HS1.out; omega))
      have cG := ST4.out.cell G3.out (by omega) (by omega)
      have CG4 := Lib.hid cG
      have P4 := Lib.hid (ST4.out.pool P3.out (fun a ha => by have := HPB.out a ha; have := HS1.out; omega))
      have BW4 := Lib.hid (show w1.heap.size + 2 ≤ wr.heap.size by have := ST4.out.size; have := Z3.out; omega)
      by_cases hlt : k < n
      · have d0 : decide (k < n) = true := by simp; omega
        have AL := Lib.hid (show Below wr.heap.size wr (wr.alloc (.cells #[.int .i64 (k : Int)] 3)) from (Below.refl _ _).alloc (Nat.le_refl _) _)
        have HT := Lib.hid (show ((List.range k).flatMap (fun i => ringsI n (Bt x) (n + 1) [i]) ++ ringsI n (Bt x) (n + 1) [k]).length ≤ 1000 by
          rw [← range_flat (fun i => ringsI n (Bt x) (n + 1) [i]) k]
          exact Nat.le_trans (range_flat_le _ n (by omega)) (allI_le (Bt x) n6))
        obtain ⟨Lk, hLk⟩ : ∃ Lk, Lk = (List.range k).flatMap fun i => ringsI n (Bt x) (n + 1) [i] := ⟨_, rfl⟩
        rw [← hLk] at HT
        have HLk := Lib.hid hLk
        clear hLk
        have GA := Lib.hid (grow_any x n c o n6 w.heap.size w1.heap.size (w1.heap.size + 1) (w1.heap.size + 2) (by have := HS1.out; omega) (by omega) (by have := HS1.out; omega) (by omega) (by omega) (fun a ha => by have := HPB.out a ha; have := HS1.out; omega) (n + 1) [k] 1 rfl (Path.one hlt) (Chain.one _ _) (by omega) Lk m4 (wr.alloc (.cells #[.int .i64 (k : Int)] 3)) A4 c4 ad4 (some ⟨wr.heap.size, 0, none⟩) 1 HT.out (by have := BW4.out; simp; omega)
          ((Below.cell AL.out (World.block_lt_of_cell? _ _ R4.out)).trans R4.out) (P4.out.below AL.out) ((Below.cell AL.out (World.block_lt_of_cell? _ _ CG4.out)).trans CG4.out) (O4.out.below AL.out O4.out.lt) (by rw [HLk.out]; exact G4.out.below AL.out)
          (Ints.single wr k BW4.out)
          (fun i hi => by
            cases e : (rowSl ad4 (gLen Lk) i).ownBlock with
            | none => exact .inl rfl
            | some g => exact .inr fun e2 => by
                          rw [HLk.out] at e
                          have := (G4.out.2.lt hi e).2
                          simp only [Value.ownBlock, Option.some.injEq] at e2
                          omega))
        clear G4
        go_wp2_with fail
        go_at_call 67
        refine GA.out.mono ?_
        rintro e w5 ⟨rfl, hR⟩
        have HR := Lib.hid hR
        clear hR
        go_wp2
        go_roundw
        case rel =>
          obtain ⟨A7, m7, c7, ad7, hO7, hG7, hS7⟩ := HR.out
          exact ⟨k + 1, by omega, by go_num, A7, m7, c7, ad7, hO7, by rw [range_flat, ← HLk.out]; exact hG7, (ST4.out.trans (Step.of_below AL.out)).trans hS7⟩
        case measure => simp [intOf]; omega
      · have d0 : decide (k < n) = false := by simp; omega
        have HK := Lib.hid (show k = n by omega)
        have G5 := Lib.hid (show GridL wr (w1.heap.size + 2) A4 m4 c4 ad4 (allI n (Bt x)) by have := G4.out; rw [HK.out] at this; exact this)
        clear G4
        have HM := Lib.hid (show m4 = rgN n x by unfold rgN; rw [HV.out, ← (all_perm n (Bt x)).length_eq]; exact G5.out.1.symm)
        have M1 := Lib.hid (show m4 ≤ 1000 by rw [← G5.out.1]; exact allI_le _ n6)
        have cO : wr.cell? ⟨w1.heap.size, 0, none⟩ = some (.slice A4 m4 c4) := O4.out.cell (by omega)
        go_wp2_with fail
        go_at_call 72
        refine (sortGrid_any A4 m4 c4 _ ad4 _ _ G5.out M1.out (fun i _ => allI_short n6 i) (allI_nodup _ _)).mono ?_
        rintro e w5 ⟨rfl, hg5, ad5, L5, hp5, hs5, hG5⟩
        have HL5 := Lib.hid (sorted_allR hp5 hs5)
        have c5 : w5.cell? ⟨w1.heap.size, 0, none⟩ = some (.slice A4 m4 c4) := (O4.out.grown hg5 (fun e => by have := (G5.out.2.outer_lt e.symm).1; omega)).cell (by omega)
        have HG5 := Lib.hid hG5; have GR5 := Lib.hid hg5
        clear hp5 hs5 hG5 hg5
        go_wp2
        go_ret2
        refine ⟨A4, c4, ad5, by rw [← HM.out]; rfl, ?_, ?_⟩
        · rw [HV.out, ← HL5.out, ← HM.out]
          exact HG5.out.base (by have := HS1.out; omega)
        · exact below_grown (ST4.out.to_below (HB0.out.trans (BL3.out.mono (by have := HS1.out; omega))) (by have := HS1.out; omega) (by have := HS1.out; omega) (by have := HS1.out; have := Z3.out; omega)) GR5.out (fun g e => by have := (G5.out.2.outer_lt e).1; have := HS1.out; omega) (by have := BW4.out; have := HS1.out; omega)
end Go.Proofs.Ytbfhfadfjgfmaaa
