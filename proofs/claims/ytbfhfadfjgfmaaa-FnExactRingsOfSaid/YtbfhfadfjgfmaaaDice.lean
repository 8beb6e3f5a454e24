/- Contracts of functions of this program, used by the laws of this seat. No condition beyond what each theorem states. -/
import Derived.Test.YtbfhfadfjgfmaaaProg
import Derived.Test.YtbfhfadfjgfmaaaBase
import Derived.Outline
import Derived.WalkLawsBesides
import Derived.WalkSpells
import Derived.Deep.QuietTactic
import Derived.BigQuiet
set_option linter.unusedVariables false
set_option linter.unusedSimpArgs false
set_option linter.unusedSectionVars false
namespace Go.Proofs.Ytbfhfadfjgfmaaa
open Go.RowKit
theorem sz6 : (Try.prog.info? 53).map (·.size) = some 6 := by kernel_rfl
abbrev dieV (d : Nat → Int) : Value := .agg (row 6 (I d))

theorem in_any (x a b : Int) (w : World) :
    Calls Try.prog 84 #[.int .i64 x, .int .i64 a, .int .i64 b] w fun e w' => e = .returned (.bool (decide (a ≤ x) && decide (x ≤ b))) ∧ w = w' := by
  by_cases h1 : a ≤ x
  · go_enter Try.func84, Try.ntmps84
    go_wp2
    go_ret
    exact ⟨by simp [h1], rfl⟩
  · go_enter Try.func84, Try.ntmps84
    go_wp2
    go_ret
    have h2 : ¬ a ≤ x := by omega
    exact ⟨by simp [h2], rfl⟩

/-- Place k of a die is right. -/
def okAt (d : Nat → Int) (k : Nat) : Prop := (0 ≤ d k ∧ d k ≤ 30) ∧ (0 < k → d (k - 1) ≤ d k)
def Die (d : Nat → Int) : Prop := ∀ k, k < 6 → okAt d k
open Classical in
noncomputable def dieB (d : Nat → Int) : Bool := decide (Die d)
theorem dieB_yes {d : Nat → Int} (h : Die d) : dieB d = true := by simp [dieB, h]
theorem dieB_no {d : Nat → Int} {k : Nat} (hk : k < 6) (h : ¬ okAt d k) : dieB d = false := by
  simp only [dieB, decide_eq_false_iff_not]; exact fun h' => h (h' k hk)

theorem l2Die_any (d : Nat → Int) (w : World) :
    Calls Try.prog 83 #[dieV d] w fun e w' => e = .returned (.bool (dieB d)) ∧ Below w.heap.size w w' := by
  go_enter Try.func83, Try.ntmps83
  go_wp2
  go_loopw [3] (fun i wr => ∃ k : Nat, k ≤ 6 ∧ i = .int .i64 k ∧ Blk wr w.heap.size 6 53 (I d) ∧ Below w.heap.size w wr ∧ Hid (∀ j, j < k → okAt d j)) (fun i _ => 6 - (intOf i).toNat)
  case atStart =>
    exact ⟨0, by omega, rfl, Blk.new _ _ _ _, (Below.refl _ _).alloc (by omega) _, fun j hj => by omega⟩
  case round =>
    obtain ⟨k, hk, rfl, h0, hb, HO⟩ := hrel
    by_cases hlt : k < 6
    · have c0 : wr.cell? ⟨w.heap.size, k, none⟩ = some (.int .i64 (d k)) := h0.cell hlt
      have c1 : wr.cell? ⟨w.heap.size, k - 1, none⟩ = some (.int .i64 (d (k - 1))) := h0.cell (by omega)
      have H0 := Lib.hid h0; have HB := Lib.hid hb
      have F := Lib.hid (fun h : ¬ okAt d k => dieB_no hlt h)
      have G := Lib.hid (fun h : okAt d k => (fun j hj => if e : j = k then e ▸ h else HO.out j (by omega) : ∀ j, j < k + 1 → okAt d j))
      clear h0 hb
      by_cases g : 0 ≤ d k ∧ d k ≤ 30
      · obtain ⟨g1, g2⟩ := g
        by_cases hk0 : 0 < k
        · by_cases g4 : d k < d (k - 1)
          · have b1 : decide (d k < d (k - 1)) = true := by simp; omega
            go_wp2
            go_quiet ((go_at_call 84; exact quiet_eq (in_any _ _ _ _)))
            go_wp2
            go_ret
            exact ⟨by rw [F.out (fun h => by have := h.2 hk0; omega)]; rfl, below_drewN HB.out _⟩
          · have b1 : decide (d k < d (k - 1)) = false := by simp; omega
            go_wp2
            go_quiet ((go_at_call 84; exact quiet_eq (in_any _ _ _ _)))
            go_wp2
            go_roundw
            case rel => exact ⟨k + 1, by omega, by go_num, H0.out.drewN _, below_drewN HB.out _, G.out ⟨⟨g1, g2⟩, fun _ => by omega⟩⟩
            case measure => simp [intOf]; omega
        · obtain rfl : k = 0 := by omega
          go_wp2
          go_quiet ((go_at_call 84; exact quiet_eq (in_any _ _ _ _)))
          go_wp2
          go_roundw
          case rel => exact ⟨0 + 1, by omega, by go_num, H0.out.drewN _, below_drewN HB.out _, G.out ⟨⟨g1, g2⟩, fun _ => by omega⟩⟩
          case measure => simp [intOf]
      · have b2 : (decide (0 ≤ d k) && decide (d k ≤ 30)) = false := by rw [← Bool.decide_and]; simpa using g
        go_wp2
        go_quiet ((go_at_call 84; exact quiet_eq (in_any _ _ _ _)))
        go_wp2
        go_ret
        exact ⟨by rw [F.out (fun h => g h.1)]; rfl, below_drewN HB.out _⟩
    · have H := Lib.hid (dieB_yes (d := d) fun j hj => HO.out j (by omega))
      go_wp2
      go_ret
      exact ⟨by rw [H.out]; rfl, hb⟩
theorem toA6_any (d : Nat → Int) (w : World) :
    Calls Try.prog 41 #[dieV d] w fun e w' => e = .returned (dieV d) ∧ Below w.heap.size w w' := by
  go_enter Try.func41, Try.ntmps41
  go_wp2
  go_loopw [4] (fun i wr => ∃ k : Nat, k ≤ 6 ∧ i = .int .i64 k ∧ Blk wr w.heap.size 6 53 (I d) ∧ Blk wr (w.heap.size + 1) 6 53 (I fun _ => 0) ∧ Blk wr (w.heap.size + 1 + 1) 6 53 (I fun j => if j < k then d j else 0) ∧ Below w.heap.size w wr) (fun i _ => 6 - (intOf i).toNat)
  case atStart =>
    refine ⟨0, by omega, rfl, ?_, ?_, ?_, ?_⟩
    · exact ((Blk.new _ _ _ _).alloc _).alloc _
    · exact (Blk.newAt (by simp) (by rfl)).alloc _
    · exact Blk.newAt (by simp) (by rfl)
    · exact (((Below.refl _ _).alloc (by omega) _).alloc (by simp) _).alloc (by simp; omega) _
  case round =>
    obtain ⟨k, hk, rfl, h0, h1, h2, hb⟩ := hrel
    by_cases hlt : k < 6
    · have c0 : wr.cell? ⟨w.heap.size, k, none⟩ = some (.int .i64 (d k)) := h0.cell hlt
      have c2 : wr.cell? ⟨w.heap.size + 1 + 1, k, none⟩ = some (I (fun j => if j < k then d j else 0) k) := h2.cell hlt
      have f2 := h2.free k
      have H0 := Lib.hid h0; have H1 := Lib.hid h1; have H2 := Lib.hid h2; have HB := Lib.hid hb
      clear h0 h1 h2 hb
      go_wp2
      go_roundw
      case rel =>
        refine ⟨k + 1, by omega, by go_num, H0.out.other _ _ (by simp; try omega), H1.out.other _ _ (by simp), ?_, HB.out.setCell (by simp; try omega) _⟩
        refine (H2.out.set hlt _).ext fun i hi => ?_
        simp only [upd, I]
        by_cases e : i = k
        · subst e; simp
        · rw [if_neg e]; by_cases e2 : i < k
          · rw [if_pos e2, if_pos (by omega)]
          · rw [if_neg e2, if_neg (by omega)]
      case measure => simp [intOf]; omega
    · obtain rfl : k = 6 := by omega
      have H0 := Lib.hid h0; have H1 := Lib.hid h1; have H2 := Lib.hid h2; have HB := Lib.hid hb
      clear h0 h1 h2 hb
      go_wp2_with (first | (refine wpList_load_blk rfl 53 _ rfl H2.out rfl Try.underlying53 sz6 ?_) | (refine wpList_store_blk rfl 53 _ _ rfl H1.out rfl rfl sz6 (fun _ _ => rfl) ?_))
      refine post_blk rfl (H1.out.setRow _) rfl Try.underlying53 sz6 rfl ⟨?_, below_setRow HB.out (by simp) _⟩
      congr 2
end Go.Proofs.Ytbfhfadfjgfmaaa
