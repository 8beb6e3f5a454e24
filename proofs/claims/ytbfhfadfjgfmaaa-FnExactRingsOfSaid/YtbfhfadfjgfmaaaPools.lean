/- Texts of mine, joined by merge.py. -/
import Derived.Test.YtbfhfadfjgfmaaaPart
import Derived.Test.YtbfhfadfjgfmaaaEq
import Derived.Test.YtbfhfadfjgfmaaaIsDie
import Derived.Laws.MakeOwn
/- Pools: slices of dice, read only. -/
set_option linter.unusedVariables false
set_option linter.unusedSimpArgs false
set_option linter.unusedSectionVars false
namespace Go.Proofs.Ytbfhfadfjgfmaaa
open Go.RowKit
section
variable {P : Program} {w : World} {n : Nat} {ty : TypeId}
/-- Cells at an address, read as one array. -/
theorem run_loadVar_cells {p : Addr} {g : Nat → Value} (hc : ∀ j, j < n → w.cell? (p.add j) = some (g j)) (ha : ∀ w, (isAgg ty).run P w = .ok true w) (hi : (P.info? ty).map (·.size) = some n) : (loadVar ty p).run P w = .ok (.agg (row n g)) w := by
  have hl : (loadCells p ((List.range n).map g).length).run P w = .ok ((List.range n).map g).toArray w :=
    run_loadCells_list (P := P) w p _ (fun j v hv => by
      rw [List.getElem?_map] at hv
      have hj : j < n := by
        by_cases h : j < n
        · exact h
        · rw [List.getElem?_eq_none (by simp; omega)] at hv; cases hv
      rw [List.getElem?_range hj] at hv
      rw [hc j hj]
      exact hv)
  cases hq : P.info? ty with
  | none => simp [hq] at hi
  | some i =>
    have hs : i.size = n := by simpa [hq] using hi
    simp only [List.length_map, List.length_range] at hl
    simp [loadVar, Sem.run_bind, ha, sizeOf, typeInfo, hq, hs, hl, row]
theorem wpList_load_cells {ops : Array Oper} {rest : List Oper} {o : Oper} {a : Act} {Q : Exit → Act → World → Prop} (hw : Region.wanted o (yielded ops a.tmps) = true) (ty : TypeId) (x : Operand) (ho : o.op = .load ty x)
    {p : Addr} {g : Nat → Value} (hx : a.eval x = .pointer (some p)) (hc : ∀ j, j < n → w.cell? (p.add j) = some (g j)) (ha : ∀ w, (isAgg ty).run P w = .ok true w) (hi : (P.info? ty).map (·.size) = some n)
    (h : wpList P ops Q rest (a.put o.dst (.agg (row n g))) w) : wpList P ops Q (o :: rest) a w := by
  unfold wpList
  rw [if_pos hw]
  left
  unfold Oper.wp execOp
  simp only [ho, hx, Instr.loadAt, Instr.sureAddr, Sem.run_bind, Sem.run_pure, Result.andThen_ok, run_loadVar_cells hc ha hi]
  exact h
theorem grown_load_cells {o : Oper} {a : Act} {w0 : World} {K : Act → Prop} (ty : TypeId) (x : Operand) (ho : o.op = .load ty x)
    {p : Addr} {g : Nat → Value} (hx : a.eval x = .pointer (some p)) (hp : p.block < w0.heap.size) (hc : ∀ j, j < n → w0.cell? (p.add j) = some (g j)) (ha : ∀ w, (isAgg ty).run P w = .ok true w) (hi : (P.info? ty).map (·.size) = some n)
    (hk : K (a.put o.dst (.agg (row n g)))) : o.quiet P a (Grew w0) K := by
  refine ⟨_, fun w hw => ?_, hk⟩
  have hl := run_loadVar_cells (P := P) (w := w) (p := p) (g := g) (fun j hj => by
    rw [Below.cell hw (p := p.add j) (by rw [show (p.add j).block = p.block by unfold Addr.add; split <;> rfl]; exact hp)]; exact hc j hj) ha hi
  unfold Oper.quietAt execOp
  simp only [ho, hx, Instr.loadAt, Instr.sureAddr, Sem.run_bind, Sem.run_pure, Result.andThen_ok, hl]
  exact ⟨rfl, rfl⟩
end

/-- What the slice at o holds: n dice. -/
def PoolAt (w : World) (o : Option Addr) (n : Nat) (x : Nat → Nat → Int) : Prop :=
  ∀ i, i < n → ∃ a, o = some a ∧ a.block < w.heap.size ∧ ∀ j, j < 6 → w.cell? ((a.add (i * 6)).add j) = some (I (x i) j)
theorem add_block (a : Addr) (k : Nat) : (a.add k).block = a.block := by unfold Addr.add; split <;> rfl
namespace PoolAt
variable {w w' : World} {o : Option Addr} {n B : Nat} {x : Nat → Nat → Int}
theorem below (h : PoolAt w o n x) (hb : Below w.heap.size w w') : PoolAt w' o n x := fun i hi => by
  obtain ⟨a, h1, h2, h3⟩ := h i hi
  refine ⟨a, h1, by have := hb.size; omega, fun j hj => ?_⟩
  rw [Below.cell hb (by rw [add_block, add_block]; exact h2)]
  exact h3 j hj
theorem alloc (h : PoolAt w o n x) (q : Obj) : PoolAt (w.alloc q) o n x := h.below ((Below.refl _ _).alloc (Nat.le_refl _) q)
theorem ofBlk {b : Nat} {T : TypeId} {f : Nat → Int} (h : Blk w b (n * 6) T (I f)) (he : ∀ i, i < n → ∀ j, j < 6 → f (i * 6 + j) = x i j) : PoolAt w (some ⟨b, 0, none⟩) n x := fun i hi => by
  refine ⟨_, rfl, h.lt, fun j hj => ?_⟩
  rw [addr_add, addr_add, h.cell (by omega), Nat.zero_add]
  simp only [I, he i hi j hj]
end PoolAt
abbrev poolV (o : Option Addr) (n cap : Nat) : Value := .slice o n cap

theorem made_zero (N : Nat) : madeCells (row 6 (I fun _ => 0)) N = row N (I fun _ => 0) := by
  have h6 : (row 6 (I fun _ => 0)).size = 6 := row_size _ _
  have hg : ∀ k, (row 6 (I fun _ => 0))[k % (row 6 (I fun _ => 0)).size]! = I (fun _ => 0) k := fun k => by
    rw [h6, getElem!_pos (row 6 (I fun _ => 0)) (k % 6) (by rw [h6]; omega)]
    simp [row, I]
  unfold madeCells
  apply Array.ext
  · simp [row_size]
  · intro i h1 h2
    have hi : i < N := by simpa using h1
    simp only [Array.getElem_map, Array.getElem_range, hg]
    simp [row]
theorem zinfo6 : (Try.prog.info? 53).map (fun i => (i.zero, i.size, i.bytes)) = some (some (.agg (row 6 (I fun _ => 0))), 6, 48) := by kernel_rfl
theorem run_makePool (n : Nat) (hn : n ≤ 1048576) (w : World) : (Instr.makeSlice 22 (.int .i64 (n : Int)) (.int .i64 (n : Int))).run Try.prog w = .ok (poolV (some ⟨w.heap.size, 0, none⟩) n n) (w.alloc (.cells (row (n * 6) (I fun _ => 0)) 53)) := by
  have hz := zinfo6
  cases hq : Try.prog.info? 53 with
  | none => rw [hq] at hz; cases hz
  | some i =>
    rw [hq] at hz
    simp only [Option.map_some, Option.some.injEq, Prod.mk.injEq] at hz
    obtain ⟨z1, z2, z3⟩ := hz
    have h := run_make (P := Try.prog) w 22 53 i _ Try.underlying22 hq z1 .i64 .i64 (n : Int) (n : Int) (by omega) (Int.le_refl _) (by rw [z3]; omega) (by omega)
    rw [h, z2]
    simp only [Int.toNat_natCast]
    rw [show (Value.agg (row 6 (I fun _ => 0))).cells = row 6 (I fun _ => 0) from rfl, made_zero]
theorem wpList_makePool {ops : Array Oper} {rest : List Oper} {o : Oper} {a : Act} {w : World} {Q : Exit → Act → World → Prop} (hw : Region.wanted o (yielded ops a.tmps) = true) {x y : Operand} (ho : o.op = .makeSlice 22 x y)
    {n : Nat} (hx : a.eval x = .int .i64 (n : Int)) (hy : a.eval y = .int .i64 (n : Int)) (hn : n ≤ 1048576) (h : wpList Try.prog ops Q rest (a.put o.dst (poolV (some ⟨w.heap.size, 0, none⟩) n n)) (w.alloc (.cells (row (n * 6) (I fun _ => 0)) 53))) : wpList Try.prog ops Q (o :: rest) a w := by
  unfold wpList
  rw [if_pos hw]
  left
  unfold Oper.wp execOp
  simp only [ho, hx, hy, Sem.run_bind, Sem.run_pure, Result.andThen_ok, run_makePool n hn w]
  exact h

theorem szPool_any (o : Option Addr) (n cap : Nat) (hn : n ≤ maxLen) (w : World) : Calls Try.prog 10 #[poolV o n cap, .int .i64 1048576] w fun e w' => e = .returned (.int .i64 (if n ≤ 1048576 then 1048576 - (n : Int) else -1)) ∧ w = w' := by
  have hm : (n : Int) ≤ 9223372036854775807 := by have : maxLen ≤ 9223372036854775807 := by decide
                                                  omega
  by_cases h : n ≤ 1048576
  · have d1 : decide ((1048576 : Int) - (n : Int) < 0) = false := by simp; omega
    rw [if_pos h]
    go_enter Try.func10, Try.ntmps10
    go_wp2
    go_ret
    exact ⟨rfl, rfl⟩
  · have d1 : decide ((1048576 : Int) - (n : Int) < 0) = true := by simp; omega
    rw [if_neg h]
    go_enter Try.func10, Try.ntmps10
    go_wp2
    go_ret
    exact ⟨rfl, rfl⟩
theorem szPool_ok (o : Option Addr) (n cap : Nat) (hn : n ≤ 1048576) (w : World) : Calls Try.prog 10 #[poolV o n cap, .int .i64 1048576] w fun e w' => e = .returned (.int .i64 (1048576 - (n : Int))) ∧ w = w' := by
  have h := szPool_any o n cap (by have : (1048576 : Nat) ≤ maxLen := by unfold maxLen; omega
                                   omega) w
  rw [if_pos hn] at h
  exact h
theorem szPool_big (o : Option Addr) (n cap : Nat) (h1 : ¬ n ≤ 1048576) (hn : n ≤ maxLen) (w : World) : Calls Try.prog 10 #[poolV o n cap, .int .i64 1048576] w fun e w' => e = .returned (.int .i64 (-1)) ∧ w = w' := by
  have h := szPool_any o n cap hn w
  rw [if_neg h1] at h
  exact h
theorem toPool_any (o : Option Addr) (n cap : Nat) (x : Nat → Nat → Int) (hn : n ≤ 1048576) (w : World) (h0 : PoolAt w o n x) : Calls Try.prog 12 #[poolV o n cap] w fun e w' => ∃ o', e = .returned (poolV o' n n) ∧ PoolAt w' o' n x ∧ Below w.heap.size w w' := by
  have H0 := Lib.hid h0; clear h0
  go_enter Try.func12, Try.ntmps12
  go_wp2_with (first | (((with_reducible apply wpList_makePool); (case hw => rfl); (case ho => rfl); (case hx => rfl); (case hy => rfl); (case hn => exact hn))) | fail)
  go_loopw [4] (fun i wr => ∃ k : Nat, k ≤ n ∧ i = .int .i64 k ∧ Blk wr w.heap.size (n * 6) 53 (I fun p => if p < k * 6 then x (p / 6) (p % 6) else 0) ∧ Below w.heap.size w wr) (fun i _ => n - (intOf i).toNat)
  case atStart => exact ⟨0, by omega, rfl, Blk.ext (f := I fun _ => 0) (Blk.new _ _ _ _) (fun i _ => by simp [I]), (Below.refl _ _).alloc (Nat.le_refl _) _⟩
  case round =>
    obtain ⟨k, hk, rfl, hR, hb⟩ := hrel
    by_cases hlt : k < n
    · obtain ⟨a, rfl, ha, hc⟩ := H0.out.below hb k hlt
      have HC := Lib.hid hc; have HR := Lib.hid hR; have HB := Lib.hid hb; have HAB := Lib.hid ha
      clear hc hR hb ha
      go_wp2_with (first | ((refine wpList_load_cells rfl 53 _ rfl rfl HC.out Try.isAgg53 sz6 ?_)) | fail)
      go_at_call 41
      refine (toA6_any (x k) _).mono ?_
      rintro e w1 ⟨rfl, hb1⟩
      have HR1 := Lib.hid (HR.out.below hb1 HR.out.lt); have HB1 := Lib.hid (HB.out.trans (hb1.mono HB.out.size)); clear hb1
      have hk6 : k * 6 + 6 ≤ n * 6 := by omega
      go_wp2_with (first | ((refine wpList_store_part rfl 53 _ _ rfl HR1.out rfl rfl hk6 sz6 (fun _ _ => rfl) ?_)) | fail)
      go_roundw
      case rel =>
        refine ⟨k + 1, by omega, by go_num, (HR1.out.setRow _).ext (fun p hp => ?_), below_setRow HB1.out (Nat.le_refl _) _⟩
        simp only [splice, I]
        by_cases h1 : p < k * 6
        · rw [if_neg (by omega), if_pos h1, if_pos (by omega)]
        · by_cases h2 : p < k * 6 + 6
          · rw [if_pos ⟨by omega, h2⟩, if_pos (by omega), show p / 6 = k by omega, show p - k * 6 = p % 6 by omega]
          · rw [if_neg (by omega), if_neg h1, if_neg (by omega)]
      case measure => simp [intOf]; omega
    · obtain rfl : k = n := by omega
      have HR := Lib.hid hR; have HB := Lib.hid hb
      clear hR hb
      go_wp2
      go_ret
      exact ⟨_, rfl, PoolAt.ofBlk HR.out (fun i hi j hj => by rw [if_pos (by omega), show (i * 6 + j) / 6 = i by omega, show (i * 6 + j) % 6 = j by omega]), HB.out⟩
end Go.Proofs.Ytbfhfadfjgfmaaa

/- Contracts of functions of this program, used by the laws of this seat. No condition beyond what each theorem states. -/
set_option linter.unusedVariables false
set_option linter.unusedSimpArgs false
set_option linter.unusedSectionVars false
namespace Go.Proofs.Ytbfhfadfjgfmaaa
open Go.RowKit
theorem eqPool_any (o1 o2 : Option Addr) (n c1 c2 : Nat) (x : Nat → Nat → Int) (hn : n ≤ 1048576) (w : World) (h1 : PoolAt w o1 n x) (h2 : PoolAt w o2 n x) : Calls Try.prog 14 #[poolV o1 n c1, poolV o2 n c2] w fun e w' => e = .returned (.bool true) ∧ Below w.heap.size w w' := by
  have H1 := Lib.hid h1; have H2 := Lib.hid h2; clear h1 h2
  have d0 : ((n : Int) == (n : Int)) = true := by simp
  go_enter Try.func14, Try.ntmps14
  go_wp2
  go_loopw [5] (fun i wr => ∃ k : Nat, k ≤ n ∧ i = .int .i64 k ∧ Below w.heap.size w wr) (fun i _ => n - (intOf i).toNat)
  case atStart => exact ⟨0, by omega, rfl, Below.refl _ _⟩
  case round =>
    obtain ⟨k, hk, rfl, hb⟩ := hrel
    by_cases hlt : k < n
    · obtain ⟨a1, rfl, ha1, hc1⟩ := H1.out.below hb k hlt
      obtain ⟨a2, rfl, ha2, hc2⟩ := H2.out.below hb k hlt
      have HC1 := Lib.hid hc1; have HC2 := Lib.hid hc2; have HB := Lib.hid hb
      have HA1 := Lib.hid (show (a1.add (k * 6)).block < wr.heap.size by rw [add_block]; exact ha1)
      have HA2 := Lib.hid (show (a2.add (k * 6)).block < wr.heap.size by rw [add_block]; exact ha2)
      clear hc1 hc2 ha1 ha2 hb
      go_wp2
      refine wp_region_grown_lit (by kernel_rfl) (by kernel_rfl) ?_
      repeat (first | go_big_quiet_skip | (go_big_quiet_want; (first | (refine grown_load_cells 53 _ rfl rfl (HA1.out) (HC1.out) Try.isAgg53 sz6 ?_; simp only [Act.put, List.setIfInBounds_toArray, List.set_cons_succ, List.set_cons_zero]; go_big_quiet_on) | (refine grown_load_cells 53 _ rfl rfl (HA2.out) (HC2.out) Try.isAgg53 sz6 ?_; simp only [Act.put, List.setIfInBounds_toArray, List.set_cons_succ, List.set_cons_zero]; go_big_quiet_on) | (go_big_quiet_op; (first | go_big_quiet_on | (refine ⟨_, fun _ _ => rfl, ?_⟩; go_big_quiet_on) | (apply Exists.intro; refine ⟨fun _ hC => ?_, ?_⟩; (first | (go_at_call 46; exact grown_of hC (eqA6_any _ _))); go_big_quiet_on))))))
      refine wpQuiet_nil ?_
      intro wg hg
      have HB1 := Lib.hid (HB.out.trans (hg.below.mono HB.out.size))
      clear hg
      go_wp2
      go_roundw
      case rel => exact ⟨k + 1, by omega, by go_num, HB1.out⟩
      case measure => simp [intOf]; omega
    · obtain rfl : k = n := by omega
      go_wp2
      go_ret
      exact ⟨rfl, hb⟩

noncomputable def poolB (n : Nat) (x : Nat → Nat → Int) : Bool := (decide ((1 : Int) ≤ (n : Int)) && decide ((n : Int) ≤ 4)) && allB (fun i => dieB (x i)) n

theorem l2Pool_any (o : Option Addr) (n c : Nat) (x : Nat → Nat → Int) (hn : n ≤ 1048576) (w : World) (h : PoolAt w o n x) : Calls Try.prog 38 #[poolV o n c] w fun e w' => e = .returned (.bool (poolB n x)) ∧ Below w.heap.size w w' := by
  have H := Lib.hid h; clear h
  go_enter Try.func38, Try.ntmps38
  go_wp2
  go_loopw [3] (fun i wr => ∃ k : Nat, k ≤ n ∧ k ≤ 5 ∧ i = .int .i64 k ∧ Hid (∀ j, j < k → dieB (x j) = true) ∧ Below w.heap.size w wr) (fun i _ => 6 - (intOf i).toNat)
  case atStart => exact ⟨0, by omega, by omega, rfl, (fun j hj => by omega), Below.refl _ _⟩
  case round =>
    obtain ⟨k, hk, hk5, rfl, HO, hb⟩ := hrel
    have HB := Lib.hid hb
    by_cases hlt : k < n
    · have d1 : decide ((k : Int) < (n : Int)) = true := by simp; omega
      by_cases h4 : k ≤ 4
      · have d2 : decide ((k : Int) ≤ 4) = true := by simp; omega
        obtain ⟨a, rfl, ha, hc⟩ := H.out.below hb k hlt
        have HC := Lib.hid hc
        clear hc hb ha
        cases g : dieB (x k)
        · have F := Lib.hid (show poolB n x = false by unfold poolB; rw [allB_false hlt g, Bool.and_false])
          go_wp2_with (first | (refine wpList_load_cells rfl 53 _ rfl rfl (HC.out) Try.isAgg53 sz6 ?_) | fail)
          go_at_call 83
          refine (l2Die_any (x k) _).mono ?_
          rintro e w1 ⟨rfl, hb1⟩
          have HB1 := Lib.hid (HB.out.trans (hb1.mono HB.out.size)); clear hb1
          rw [g]
          go_wp2
          go_ret
          exact ⟨by (rw [F.out]) <;> rfl, HB1.out⟩
        · have G : Hid (∀ j, j < k + 1 → dieB (x j) = true) := fun j hj => if e : j = k then e ▸ g else HO.out j (by omega)
          go_wp2_with (first | (refine wpList_load_cells rfl 53 _ rfl rfl (HC.out) Try.isAgg53 sz6 ?_) | fail)
          go_at_call 83
          refine (l2Die_any (x k) _).mono ?_
          rintro e w1 ⟨rfl, hb1⟩
          have HB1 := Lib.hid (HB.out.trans (hb1.mono HB.out.size)); clear hb1
          rw [g]
          clear g
          go_wp2
          go_roundw
          case rel => exact ⟨k + 1, by omega, by omega, by go_num, G, HB1.out⟩
          case measure => simp [intOf]; omega
      · have d2 : decide ((k : Int) ≤ 4) = false := by simp; omega
        have F := Lib.hid (show poolB n x = (decide ((1 : Int) ≤ (n : Int)) && decide ((n : Int) ≤ 4)) by unfold poolB; rw [show decide ((n : Int) ≤ 4) = false by simp; omega]; simp)
        clear hb
        go_wp2_with (first | (go_at_call 84; refine (in_any _ _ _ _).mono ?_; rintro e w' ⟨rfl, rfl⟩) | fail)
        go_ret
        exact ⟨by (rw [F.out]) <;> rfl, HB.out⟩
    · have d1 : decide ((k : Int) < (n : Int)) = false := by simp; omega
      have F := Lib.hid (show poolB n x = (decide ((1 : Int) ≤ (n : Int)) && decide ((n : Int) ≤ 4)) by
        unfold poolB; rw [(allB_iff (fun i => dieB (x i)) n).2 (fun j hj => HO.out j (by omega)), Bool.and_true])
      clear hb
      go_wp2_with (first | (go_at_call 84; refine (in_any _ _ _ _).mono ?_; rintro e w' ⟨rfl, rfl⟩) | fail)
      go_ret
      exact ⟨by (rw [F.out]) <;> rfl, HB.out⟩
end Go.Proofs.Ytbfhfadfjgfmaaa

/- Contracts of functions of this program, used by the laws of this seat. No condition beyond what each theorem states. -/
set_option linter.unusedVariables false
set_option linter.unusedSimpArgs false
set_option linter.unusedSectionVars false
namespace Go.Proofs.Ytbfhfadfjgfmaaa
open Go.RowKit
abbrev isDieV : Value := .func (.func 87) #[] #[]
abbrev notDieV (B : Nat) : Value := .func (.func 110) #[] #[.pointer (some ⟨B, 0, none⟩)]
theorem kept {w w' : World} {B : Nat} {v : Value} (h : w.cell? ⟨B, 0, none⟩ = some v ∧ B < w.heap.size) (hb : Below w.heap.size w w') : w'.cell? ⟨B, 0, none⟩ = some v ∧ B < w'.heap.size :=
  ⟨(Below.cell hb (p := ⟨B, 0, none⟩) h.2).trans h.1, by have := hb.size; have := h.2; omega⟩
theorem notDie_any (d : Nat → Int) (B : Nat) (w : World) (hB : w.cell? ⟨B, 0, none⟩ = some isDieV ∧ B < w.heap.size) :
    Calls Try.prog 110 #[dieV d, .pointer (some ⟨B, 0, none⟩)] w fun e w' => e = .returned (.bool (!dieB d)) ∧ Below w.heap.size w w' := by
  have c0 : ∀ o, (w.alloc o).cell? ⟨B, 0, none⟩ = some isDieV := fun o => (kept hB ((Below.refl _ _).alloc (Nat.le_refl _) o)).1
  clear hB
  go_enter Try.func110, Try.ntmps110
  go_wp2_with (first | (refine wpList_load_blk rfl 53 _ rfl (Blk.new _ _ _ _) rfl Try.underlying53 sz6 ?_) | fail)
  go_at_call 87
  refine (isDie_any d _).mono ?_
  rintro e w1 ⟨rfl, hb1⟩
  have HB1 := Lib.hid (Below.trans (show Below w.heap.size w _ from (by (repeat (first | (with_reducible exact Below.refl _ _) | ((with_reducible refine below_setRow ?_ ?_ _); rotate_left; (focus (first | omega | (simp; done) | (simp; omega)))) | ((with_reducible refine Below.setCell ?_ ?_ _); rotate_left; (focus (first | omega | (simp; done) | (simp; omega)))) | ((with_reducible refine Below.alloc ?_ ?_ _); rotate_left; (focus (first | omega | (simp; done) | (simp; omega)))) | (with_reducible refine below_drewN ?_ _))))) (hb1.mono (by (focus (first | omega | (simp; done) | (simp; omega)))))); clear hb1
  go_wp2
  go_ret
  exact ⟨rfl, HB1.out⟩

theorem idxDie_any (o : Option Addr) (n c B : Nat) (x : Nat → Nat → Int) (hn : n ≤ 1048576) (w : World) (h : PoolAt w o n x) (hB : w.cell? ⟨B, 0, none⟩ = some isDieV ∧ B < w.heap.size) :
    Calls Try.prog 132 #[poolV o n c, notDieV B] w fun e w' => e = .returned (.int .i64 (firstNot (fun i => dieB (x i)) n)) ∧ Below w.heap.size w w' := by
  have H := Lib.hid h; clear h
  have K := Lib.hid hB; clear hB
  go_enter Try.func132, Try.ntmps132
  go_wp2
  go_loopw [8] (fun i wr => ∃ k : Nat, k ≤ n ∧ i = .int .i64 k ∧ Hid (∀ j, j < k → dieB (x j) = true) ∧ Below w.heap.size w wr) (fun i _ => n - (intOf i).toNat)
  case atStart => exact ⟨0, by omega, rfl, (fun j hj => by omega), Below.refl _ _⟩
  case round =>
    obtain ⟨k, hk, rfl, HO, hb⟩ := hrel
    have HB := Lib.hid hb
    by_cases hlt : k < n
    · obtain ⟨a, rfl, ha, hc⟩ := H.out.below hb k hlt
      have HC := Lib.hid hc
      have HK := Lib.hid (kept K.out hb)
      clear hc hb ha
      cases g : dieB (x k)
      · have F := Lib.hid (firstNot_at (p := fun i => dieB (x i)) hlt g HO.out)
        go_wp2_with (first | (refine wpList_load_cells rfl 53 _ rfl rfl (HC.out) Try.isAgg53 sz6 ?_) | fail)
        go_at_call 110
        refine (notDie_any (x k) B _ HK.out).mono ?_
        rintro e w1 ⟨rfl, hb1⟩
        have HB1 := Lib.hid (HB.out.trans (hb1.mono HB.out.size)); clear hb1
        rw [g]
        go_wp2
        go_ret
        exact ⟨by (rw [F.out]) <;> rfl, HB1.out⟩
      · have G : Hid (∀ j, j < k + 1 → dieB (x j) = true) := fun j hj => if e : j = k then e ▸ g else HO.out j (by omega)
        go_wp2_with (first | (refine wpList_load_cells rfl 53 _ rfl rfl (HC.out) Try.isAgg53 sz6 ?_) | fail)
        go_at_call 110
        refine (notDie_any (x k) B _ HK.out).mono ?_
        rintro e w1 ⟨rfl, hb1⟩
        have HB1 := Lib.hid (HB.out.trans (hb1.mono HB.out.size)); clear hb1
        rw [g]
        clear g
        go_wp2
        go_roundw
        case rel => exact ⟨k + 1, by omega, by go_num, G, HB1.out⟩
        case measure => simp [intOf]; omega
    · have F := Lib.hid (firstNot_none (p := fun i => dieB (x i)) (n := n) fun j hj => HO.out j (by omega))
      clear hb
      go_wp2
      go_ret
      exact ⟨by (rw [F.out]) <;> rfl, HB.out⟩
theorem containsDie_any (o : Option Addr) (n c B : Nat) (x : Nat → Nat → Int) (hn : n ≤ 1048576) (w : World) (h : PoolAt w o n x) (hB : w.cell? ⟨B, 0, none⟩ = some isDieV ∧ B < w.heap.size) :
    Calls Try.prog 109 #[poolV o n c, notDieV B] w fun e w' => e = .returned (.bool (!allB (fun i => dieB (x i)) n)) ∧ Below w.heap.size w w' := by
  have H := Lib.hid h; clear h
  have K := Lib.hid hB; clear hB
  have F := Lib.hid (firstNot_all (fun i => dieB (x i)) n)
  go_enter Try.func109, Try.ntmps109
  go_wp2_with fail
  go_at_call 132
  refine (idxDie_any o n c B x hn _ H.out K.out).mono ?_
  rintro e w1 ⟨rfl, hb1⟩
  have HB1 := Lib.hid hb1; clear hb1
  go_wp2
  go_ret
  exact ⟨by rw [← F.out]; rfl, HB1.out⟩
theorem areDice_any (o : Option Addr) (n c : Nat) (x : Nat → Nat → Int) (hn : n ≤ 1048576) (w : World) (h : PoolAt w o n x) :
    Calls Try.prog 86 #[poolV o n c, isDieV] w fun e w' => e = .returned (.bool (allB (fun i => dieB (x i)) n)) ∧ Below w.heap.size w w' := by
  have H := Lib.hid h; clear h
  go_enter Try.func86, Try.ntmps86
  go_wp2_with fail
  go_at_call 109
  refine (containsDie_any o n c _ x hn _ (H.out.alloc _) ⟨by simp, by simp⟩).mono ?_
  rintro e w1 ⟨rfl, hb1⟩
  have HB1 := Lib.hid (Below.trans (show Below w.heap.size w _ from (by (repeat (first | (with_reducible exact Below.refl _ _) | ((with_reducible refine below_setRow ?_ ?_ _); rotate_left; (focus (first | omega | (simp; done) | (simp; omega)))) | ((with_reducible refine Below.setCell ?_ ?_ _); rotate_left; (focus (first | omega | (simp; done) | (simp; omega)))) | ((with_reducible refine Below.alloc ?_ ?_ _); rotate_left; (focus (first | omega | (simp; done) | (simp; omega)))) | (with_reducible refine below_drewN ?_ _))))) (hb1.mono (by (focus (first | omega | (simp; done) | (simp; omega)))))); clear hb1
  go_wp2
  go_ret
  exact ⟨by simp, HB1.out⟩
theorem isPool_any (o : Option Addr) (n c : Nat) (x : Nat → Nat → Int) (hn : n ≤ 1048576) (w : World) (h : PoolAt w o n x) : Calls Try.prog 42 #[poolV o n c] w fun e w' => e = .returned (.bool (poolB n x)) ∧ Below w.heap.size w w' := by
  have H := Lib.hid h; clear h
  unfold poolB
  cases g : (decide ((1 : Int) ≤ (n : Int)) && decide ((n : Int) ≤ 4))
  · go_enter Try.func42, Try.ntmps42
    go_wp2_with fail
    go_at_call 85
    refine (within_any _ _ _ _).mono ?_
    rintro e w' ⟨rfl, rfl⟩
    rw [g]
    go_wp2
    go_ret
    exact ⟨rfl, Below.refl _ _⟩
  · go_enter Try.func42, Try.ntmps42
    go_wp2_with fail
    go_at_call 85
    refine (within_any _ _ _ _).mono ?_
    rintro e w' ⟨rfl, rfl⟩
    rw [g]
    go_wp2_with fail
    go_at_call 86
    refine (areDice_any o n c x hn _ H.out).mono ?_
    rintro e w1 ⟨rfl, hb1⟩
    have HB1 := Lib.hid hb1; clear hb1
    go_wp2
    go_ret
    exact ⟨by simp, HB1.out⟩
end Go.Proofs.Ytbfhfadfjgfmaaa
