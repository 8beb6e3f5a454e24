/- Contracts of functions of this program, used by the laws of this seat. No condition beyond what each theorem states. -/
import Derived.Test.YtmhlfpcndgoemaaPool3
import Derived.Test.YtmhlfpcndgoemaaTurn
import Derived.OwnWalk
set_option linter.unusedVariables false
set_option linter.unusedSimpArgs false
set_option linter.unusedSectionVars false
namespace Go.Proofs.Ytmhlfpcndgoemaa
open Go.RowKit
def sumF (f : Nat → Int) : Nat → Int
  | 0 => 0
  | k + 1 => sumF f k + f k
theorem sumF_bd {f : Nat → Int} {m : Int} : ∀ k, (∀ j, j < k → 0 ≤ f j ∧ f j ≤ m) → 0 ≤ sumF f k ∧ sumF f k ≤ m * k
  | 0, _ => by simp [sumF]
  | k + 1, h => by
    have h1 := sumF_bd k (fun j hj => h j (by omega))
    have h2 := h k (by omega)
    simp only [sumF]
    have : m * ((k + 1 : Nat) : Int) = m * (k : Int) + m := by rw [Int.natCast_add, Int.mul_add]; simp
    omega
theorem pool_le {n : Nat} {x : Nat → Nat → Int} (h : poolB n x = true) : 1 ≤ n ∧ n ≤ 4 := by
  unfold poolB at h
  simp only [Bool.and_eq_true, decide_eq_true_eq] at h
  omega
theorem pool_die {n : Nat} {x : Nat → Nat → Int} (h : poolB n x = true) : ∀ i, i < n → dieB (x i) = true := by
  unfold poolB at h
  simp only [Bool.and_eq_true] at h
  exact (allB_iff _ _).1 h.2
theorem pool_small {n : Nat} {x : Nat → Nat → Int} (h : poolB n x = true) : ∀ i, i < n → Small (x i) := fun i hi => small_of (pool_die h i hi)
noncomputable def loV (n : Nat) (x : Nat → Nat → Int) : Int := if poolB n x then sumF (fun i => x i 0) n else 0
noncomputable def hiV (n : Nat) (x : Nat → Nat → Int) : Int := if poolB n x then sumF (fun i => x i 5) n else 0

theorem sBoundsOf_any (o : Option Addr) (n c : Nat) (x : Nat → Nat → Int) (hn : n ≤ 1048576) (w : World) (h : PoolAt w o n x) : Calls Try.prog 68 #[poolV o n c] w fun e w' => e = .returned (.tuple #[.int .i64 (loV n x), .int .i64 (hiV n x), .bool (poolB n x)]) ∧ Below w.heap.size w w' := by
  have H := Lib.hid h; clear h
  unfold loV hiV
  cases g : poolB n x
  · go_enter Try.func68, Try.ntmps68
    go_wp2_with fail
    go_at_call 139
    refine (l2Pool_any o n c x hn _ H.out).mono ?_
    rintro e w1 ⟨rfl, hb1⟩
    have HB1 := Lib.hid hb1; clear hb1
    rw [g]
    go_wp2
    go_ret3
    exact ⟨rfl, HB1.out⟩
  · obtain ⟨n1, n4⟩ := pool_le g
    have HS := Lib.hid (pool_small g)
    go_enter Try.func68, Try.ntmps68
    go_wp2_with fail
    go_at_call 139
    refine (l2Pool_any o n c x hn _ H.out).mono ?_
    rintro e w1 ⟨rfl, hb1⟩
    have HB1 := Lib.hid hb1; clear hb1
    rw [g]
    clear g
    go_wp2
    go_loopw [5, 6, 7] (fun lo hi i wr => ∃ k : Nat, k ≤ n ∧ i = .int .i64 k ∧ lo = .int .i64 (sumF (fun i => x i 0) k) ∧ hi = .int .i64 (sumF (fun i => x i 5) k) ∧ Below w.heap.size w wr) (fun lo hi i _ => n - (intOf i).toNat)
    case atStart => exact ⟨0, by omega, rfl, rfl, rfl, HB1.out⟩
    case round =>
      obtain ⟨k, hk, rfl, rfl, rfl, hb⟩ := hrel
      by_cases hlt : k < n
      · obtain ⟨a, rfl, ha, hc⟩ := H.out.below hb k hlt
        obtain ⟨e1, e2⟩ := sumF_bd (f := fun i => x i 0) (m := 30) k (fun j hj => HS.out j (by omega) 0 (by omega))
        obtain ⟨e3, e4⟩ := sumF_bd (f := fun i => x i 5) (m := 30) k (fun j hj => HS.out j (by omega) 5 (by omega))
        obtain ⟨e5, e6⟩ := HS.out k hlt 0 (by omega)
        obtain ⟨e7, e8⟩ := HS.out k hlt 5 (by omega)
        have c0 : wr.cell? ((a.add (k * 6)).add 0) = some (.int .i64 (x k 0)) := hc 0 (by omega)
        have c1 : wr.cell? (a.add (k * 6)) = some (.int .i64 (x k 0)) := c0
        have c5 : wr.cell? ⟨(a.add (k * 6)).block, (a.add (k * 6)).off + 5, none⟩ = some (.int .i64 (x k 5)) := hc 5 (by omega)
        have HB := Lib.hid hb
        clear hb hc ha HB1
        go_wp2
        go_roundw
        case rel => exact ⟨k + 1, by omega, by go_num, rfl, rfl, HB.out⟩
        case measure => simp [intOf]; omega
      · obtain rfl : k = n := by omega
        go_wp2
        go_ret3
        exact ⟨rfl, hb⟩
theorem bounds_any (o : Option Addr) (n c : Nat) (x : Nat → Nat → Int) (hn : n ≤ 1048576) (g : poolB n x = true) (w : World) (h : PoolAt w o n x) : Calls Try.prog 148 #[poolV o n c] w fun e w' => e = .returned (.tuple #[.int .i64 (sumF (fun i => x i 0) n), .int .i64 (sumF (fun i => x i 5) n)]) ∧ Below w.heap.size w w' := by
  have H := Lib.hid h; clear h
  obtain ⟨n1, n4⟩ := pool_le g
  have HS := Lib.hid (pool_small g)
  clear g
  go_enter Try.func148, Try.ntmps148
  go_wp2
  go_loopw [4, 5, 10] (fun lo hi i wr => ∃ k : Nat, k ≤ n ∧ i = .int .i64 k ∧ lo = .int .i64 (sumF (fun i => x i 0) k) ∧ hi = .int .i64 (sumF (fun i => x i 5) k) ∧ Below w.heap.size w wr) (fun lo hi i _ => n - (intOf i).toNat)
  case atStart => exact ⟨0, by omega, rfl, rfl, rfl, Below.refl _ _⟩
  case round =>
    obtain ⟨k, hk, rfl, rfl, rfl, hb⟩ := hrel
    by_cases hlt : k < n
    · obtain ⟨a, rfl, ha, hc⟩ := H.out.below hb k hlt
      obtain ⟨e1, e2⟩ := sumF_bd (f := fun i => x i 0) (m := 30) k (fun j hj => HS.out j (by omega) 0 (by omega))
      obtain ⟨e3, e4⟩ := sumF_bd (f := fun i => x i 5) (m := 30) k (fun j hj => HS.out j (by omega) 5 (by omega))
      obtain ⟨e5, e6⟩ := HS.out k hlt 0 (by omega)
      obtain ⟨e7, e8⟩ := HS.out k hlt 5 (by omega)
      have HC := Lib.hid hc
      have c0 := (Blk.new wr 6 22 (I (x k))).cell (i := 0) (by omega)
      have c5 := (Blk.new wr 6 22 (I (x k))).cell (i := 5) (by omega)
      simp only [I] at c0 c5
      have HB := Lib.hid hb
      clear hb hc ha
      go_wp2_with (first | (refine wpList_load_cells rfl 22 _ rfl rfl (HC.out) Try.isAgg22 sz6 ?_) | (refine wpList_alloc_blk rfl 22 rfl zero6 ?_) | (((with_reducible apply wpList_store_new); (case hw => rfl); (case ho => rfl); (case hx => rfl); (case hy => rfl); (case hg => rfl); (case hi => exact sz6); (case h1 => exact fun _ _ => rfl))) | fail)
      go_roundw
      case rel => exact ⟨k + 1, by omega, by go_num, rfl, rfl, HB.out.alloc HB.out.size _⟩
      case measure => simp [intOf]; omega
    · obtain rfl : k = n := by omega
      go_wp2
      go_ret2
      exact ⟨rfl, hb⟩
theorem iBoundsOf_any (o : Option Addr) (n c : Nat) (x : Nat → Nat → Int) (hn : n ≤ 1048576) (w : World) (h : PoolAt w o n x) : Calls Try.prog 69 #[poolV o n c] w fun e w' => e = .returned (.tuple #[.int .i64 (loV n x), .int .i64 (hiV n x), .bool (poolB n x)]) ∧ Below w.heap.size w w' := by
  have H := Lib.hid h; clear h
  unfold loV hiV
  cases g : poolB n x
  · go_enter Try.func69, Try.ntmps69
    go_wp2_with fail
    go_at_call 56
    refine (isPool_any o n c x hn _ H.out).mono ?_
    rintro e w1 ⟨rfl, hb1⟩
    have HB1 := Lib.hid hb1; clear hb1
    rw [g]
    go_wp2
    go_ret3
    exact ⟨rfl, HB1.out⟩
  · have G := Lib.hid g
    go_enter Try.func69, Try.ntmps69
    go_wp2_with fail
    go_at_call 56
    refine (isPool_any o n c x hn _ H.out).mono ?_
    rintro e w1 ⟨rfl, hb1⟩
    have HB1 := Lib.hid hb1; clear hb1
    rw [g]
    clear g
    go_wp2_with fail
    go_at_call 148
    refine (bounds_any o n c x hn G.out _ (H.out.below HB1.out)).mono ?_
    rintro e w2 ⟨rfl, hb2⟩
    have HB2 := Lib.hid (HB1.out.trans (hb2.mono HB1.out.size)); clear hb2
    go_wp2
    go_ret3
    exact ⟨rfl, HB2.out⟩
end Go.Proofs.Ytmhlfpcndgoemaa
