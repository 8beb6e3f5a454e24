/- Contracts of functions of this program, used by the laws of this seat. No condition beyond what each theorem states. -/
import Derived.Test.YtmhlfpcndgoemaaRow
import Derived.Test.YtmhlfpcndgoemaaBeat3
import Derived.OwnWalk
import Derived.Laws.PanicsMore
set_option linter.unusedVariables false
set_option linter.unusedSimpArgs false
set_option linter.unusedSectionVars false
namespace Go.Proofs.Ytmhlfpcndgoemaa
open Go.RowKit
/-- The dice of a pool in one world, at one address. -/
def Dice6 (w : World) (a : Addr) (n : Nat) (x : Nat → Nat → Int) : Prop := ∀ m, m < n → (a.add (m * 6)).block < w.heap.size ∧ ∀ j, j < 6 → w.cell? ((a.add (m * 6)).add j) = some (I (x m) j)
theorem dice6 {w : World} {o : Option Addr} {n i : Nat} {x : Nat → Nat → Int} (h : PoolAt w o n x) (hi : i < n) : ∃ a, o = some a ∧ Dice6 w a n x := by
  obtain ⟨a, ho, _⟩ := h i hi
  refine ⟨a, ho, fun m hm => ?_⟩
  obtain ⟨a2, ho2, h1, h2⟩ := h m hm
  obtain rfl : a = a2 := by rw [ho] at ho2; exact Option.some.inj ho2
  exact ⟨by rw [add_block]; exact h1, h2⟩
theorem grown_load_pool {oo : Oper} {ac : Act} {w0 : World} {K : Act → Prop} {a : Addr} {n m : Nat} {x : Nat → Nat → Int} (p : Operand) (ho : oo.op = .load 22 p) (hP : Dice6 w0 a n x) (hx : ac.eval p = .pointer (some (a.add (m * 6)))) (hm : m < n)
    (hk : K (ac.put oo.dst (dieV (x m)))) : oo.quiet Try.prog ac (Grew w0) K :=
  grown_load_cells 22 p ho hx (hP m hm).1 (hP m hm).2 Try.isAgg22 sz6 hk
theorem idx3 (f : Nat → Int) (w : World) : (Instr.index 47 (.agg (row 3 (I f))) (.int .i64 0)).run Try.prog w = .ok (.int .i64 (f 0)) w := by
  have h1 : ∀ w, (sizeOf 3).run Try.prog w = .ok 1 w := fun _ => by kernel_rfl
  have h2 : ∀ w, (isAgg 3).run Try.prog w = .ok false w := fun _ => by kernel_rfl
  have h4 : (row 3 (I f))[0]? = some (.int .i64 (f 0)) := row_get (by omega)
  simp [Instr.index, run_underlying Try.underlying47, asIntOf, h1, h2, part, h4, go_sem]
theorem grown_index {P : Program} {oo : Oper} {ac : Act} {w0 : World} {K : Act → Prop} {ty : TypeId} {V r : Value} (p : Operand) (ho : oo.op = .index ty p (.const (.int .i64 0))) (hx : ac.eval p = V) (hr : ∀ w, (Instr.index ty V (.int .i64 0)).run P w = .ok r w)
    (hk : K (ac.put oo.dst r)) : oo.quiet P ac (Grew w0) K := by
  refine ⟨r, fun w hw => ?_, hk⟩
  have hc : ac.eval (.const (.int .i64 0)) = .int .i64 0 := rfl
  unfold Oper.quietAt execOp
  simp only [ho, hx, hc, Sem.run_bind, Sem.run_pure, hr, Result.andThen_ok]
  exact ⟨rfl, rfl⟩
theorem grown_index3 {oo : Oper} {ac : Act} {w0 : World} {K : Act → Prop} {f : Nat → Int} (p : Operand) (ho : oo.op = .index 47 p (.const (.int .i64 0))) (hx : ac.eval p = .agg (row 3 (I f)))
    (hk : K (ac.put oo.dst (.int .i64 (f 0)))) : oo.quiet Try.prog ac (Grew w0) K := grown_index p ho hx (idx3 f) hk
/-- In how many ways die i has a greater face than die k. -/
def wins (x : Nat → Nat → Int) (i k : Nat) : Int := cmpAll (x i) (x k) 6 0
theorem wins_bd (x : Nat → Nat → Int) (i k : Nat) : 0 ≤ wins x i k ∧ wins x i k ≤ 36 := by
  have := cmpAll_bd (x i) (x k) 6 0
  unfold wins
  omega
def leastF (x : Nat → Nat → Int) (i : Nat) : Nat → Int
  | 0 => 36
  | k + 1 => if k = i then leastF x i k else if leastF x i k < wins x i k then leastF x i k else wins x i k
theorem leastF_bd (x : Nat → Nat → Int) (i k : Nat) : 0 ≤ leastF x i k ∧ leastF x i k ≤ 36 := by
  induction k with
  | zero => simp [leastF]
  | succ k ih =>
    have := wins_bd x i k
    simp only [leastF]
    split
    · exact ih
    · split <;> omega
def safeF (x : Nat → Nat → Int) (n : Nat) : Nat → Int × Int
  | 0 => (0, -1)
  | i + 1 => if (safeF x n i).2 < leastF x i n then ((i : Int), leastF x i n) else safeF x n i
noncomputable def safeV (n : Nat) (x : Nat → Nat → Int) : Int × Int := if rowB n x then safeF x n n else (0, 0)
theorem least_any (a b : Int) (w : World) : Calls Try.prog 167 #[.int .i64 a, .int .i64 b] w fun e w' => e = .returned (.int .i64 (if a < b then a else b)) ∧ w = w' := by
  by_cases h : a < b
  · rw [if_pos h]
    go_enter Try.func167, Try.ntmps167
    go_wp2
    go_ret
    exact ⟨rfl, rfl⟩
  · rw [if_neg h]
    have d1 : decide (a < b) = false := by simp; omega
    go_enter Try.func167, Try.ntmps167
    go_wp2
    go_ret
    exact ⟨rfl, rfl⟩
set_option maxHeartbeats 1000000 in
theorem sSafestOf_any (o : Option Addr) (n c : Nat) (x : Nat → Nat → Int) (hn : n ≤ 1048576) (w : World) (h : PoolAt w o n x) : Calls Try.prog 105 #[poolV o n c] w fun e w' => e = .returned (.tuple #[.int .i64 (safeV n x).1, .int .i64 (safeV n x).2, .bool (rowB n x)]) ∧ Below w.heap.size w w' := by
  have H := Lib.hid h; clear h
  unfold safeV
  cases g : rowB n x
  · go_enter Try.func105, Try.ntmps105
    go_wp2_with fail
    go_at_call 158
    refine (l3Row_any o n c x hn _ H.out).mono ?_
    rintro e w1 ⟨rfl, hb1⟩
    have HB1 := Lib.hid hb1; clear hb1
    rw [g]
    go_wp2
    go_ret3
    exact ⟨rfl, HB1.out⟩
  · obtain ⟨n1, n6⟩ := row_le g
    go_enter Try.func105, Try.ntmps105
    go_wp2_with fail
    go_at_call 158
    refine (l3Row_any o n c x hn _ H.out).mono ?_
    rintro e w1 ⟨rfl, hb1⟩
    have HB1 := Lib.hid hb1; clear hb1
    rw [g]
    clear g
    go_wp2
    go_loopw [5, 6, 7] (fun best most i wr => ∃ k : Nat, k ≤ n ∧ i = .int .i64 k ∧ best = .int .i64 (safeF x n k).1 ∧ most = .int .i64 (safeF x n k).2 ∧ Below w.heap.size w wr) (fun best most i _ => n - (intOf i).toNat)
    case atStart => exact ⟨0, by omega, rfl, rfl, rfl, HB1.out⟩
    case round =>
      obtain ⟨i, hi, rfl, rfl, rfl, hb⟩ := hrel
      have HB := Lib.hid hb
      clear hb HB1
      by_cases hlt : i < n
      · have d0 : decide ((i : Int) < (n : Int)) = true := by simp; omega
        obtain ⟨wo, rfl⟩ : ∃ wo : World, wo = wr := ⟨_, rfl⟩
        go_wp2
        go_loopw [8, 9] (fun least v wr => ∃ k : Nat, k ≤ n ∧ v = .int .i64 k ∧ least = .int .i64 (leastF x i k) ∧ Below w.heap.size w wr) (fun least v _ => n - (intOf v).toNat)
        case atStart => exact ⟨0, by omega, rfl, rfl, HB.out⟩
        case round =>
          obtain ⟨k, hk, rfl, rfl, hb⟩ := hrel
          by_cases hlk : k < n
          · have d1 : decide ((k : Int) < (n : Int)) = true := by simp; omega
            by_cases he : k = i
            · have d2 : ((k : Int) != (i : Int)) = false := by simp [he]
              have HL := Lib.hid (show leastF x i (k + 1) = leastF x i k by simp [leastF, he])
              have HB2 := Lib.hid hb
              clear hb
              go_wp2
              go_roundw
              case rel => exact ⟨k + 1, by omega, by go_num, by rw [HL.out], HB2.out⟩
              case measure => simp [intOf]; omega
            · have d2 : ((k : Int) != (i : Int)) = true := by simp; omega
              have HL := Lib.hid (show leastF x i (k + 1) = if leastF x i k < wins x i k then leastF x i k else wins x i k by simp [leastF, he])
              obtain ⟨a1, rfl, hd⟩ := dice6 (H.out.below hb) hlt
              have HD := Lib.hid hd
              have HB2 := Lib.hid hb
              clear hb hd
              go_wp2
              refine wp_region_grown_lit (by kernel_rfl) (by kernel_rfl) ?_
              repeat (first | go_big_quiet_skip | (go_big_quiet_want; (first | (refine grown_load_pool _ rfl (HD.out) rfl ?_ ?_; omega; simp only [Act.put, List.setIfInBounds_toArray, List.set_cons_succ, List.set_cons_zero]; go_big_quiet_on) | (refine grown_index3 _ rfl rfl ?_; simp only [Act.put, List.setIfInBounds_toArray, List.set_cons_succ, List.set_cons_zero]; go_big_quiet_on) | (go_big_quiet_op; (first | go_big_quiet_on | (refine ⟨_, fun _ _ => rfl, ?_⟩; go_big_quiet_on) | (apply Exists.intro; refine ⟨fun _ hC => ?_, ?_⟩; (first | (go_at_call 144; exact grown_of hC (l3Compare_any _ _ _)) | (go_at_call 167; exact grown_same hC (least_any _ _ _))); go_big_quiet_on))))))
              refine wpQuiet_nil ?_
              intro wg hg
              have HB3 := Lib.hid (HB2.out.trans (hg.below.mono HB2.out.size))
              clear hg
              go_wp2
              go_roundw
              case rel => exact ⟨k + 1, by omega, by go_num, by rw [HL.out]; rfl, HB3.out⟩
              case measure => simp [intOf]; omega
          · obtain rfl : k = n := by omega
            have d1 : decide ((k : Int) < (k : Int)) = false := by simp
            have HB2 := Lib.hid hb
            clear hb
            by_cases hm : (safeF x k i).2 < leastF x i k
            · have HL := Lib.hid (show safeF x k (i + 1) = ((i : Int), leastF x i k) by simp [safeF, hm])
              have d3 : decide ((safeF x k i).2 < leastF x i k) = true := by simp [hm]
              clear hm
              go_wp2
              go_roundw
              case rel => exact ⟨i + 1, by omega, by go_num, by rw [HL.out], by rw [HL.out], HB2.out⟩
              case measure => simp [intOf]; omega
            · have HL := Lib.hid (show safeF x k (i + 1) = safeF x k i by simp [safeF, hm])
              have d3 : decide ((safeF x k i).2 < leastF x i k) = false := by simp; omega
              clear hm
              go_wp2
              go_roundw
              case rel => exact ⟨i + 1, by omega, by go_num, by rw [HL.out], by rw [HL.out], HB2.out⟩
              case measure => simp [intOf]; omega
      · have e0 : i = n := by omega
        have d0 : decide ((i : Int) < (n : Int)) = false := by simp; omega
        go_wp2
        go_ret3
        exact ⟨rfl, HB.out⟩
end Go.Proofs.Ytmhlfpcndgoemaa
