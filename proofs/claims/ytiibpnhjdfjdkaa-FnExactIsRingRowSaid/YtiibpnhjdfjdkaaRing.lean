/- IsRingRow, both sides. -/
import Derived.Test.YtiibpnhjdfjdkaaGrow
set_option linter.unusedVariables false
set_option linter.unusedSimpArgs false
set_option linter.unusedSectionVars false
namespace Go.Proofs.Ytiibpnhjdfjdkaa
open Go.RowKit
def ringAt (n : Nat) (x : Nat → Nat → Int) (k : Nat) : Bool := beatB (x k) (x ((k + 1) % n))
def ringB (n : Nat) (x : Nat → Nat → Int) : Bool := allB (ringAt n x) n && decide (3 ≤ n)
noncomputable def ringV (n : Nat) (x : Nat → Nat → Int) : Bool := rowB n x && ringB n x
theorem ringB_no {n k : Nat} {x : Nat → Nat → Int} (hk : k < n) (h : ringAt n x k = false) : ringB n x = false := by unfold ringB; rw [allB_false hk h]; rfl
theorem ringB_yes {n : Nat} {x : Nat → Nat → Int} (h : ∀ j, j < n → ringAt n x j = true) : ringB n x = decide (3 ≤ n) := by unfold ringB; rw [(allB_iff _ _).2 h]; rfl
theorem beatI_leq (a b : Nat → Int) : decide (beatI a b ≤ 0) = !beatB a b := by
  rw [← beatI_pos]
  by_cases h : 0 < beatI a b
  · rw [decide_eq_true h, decide_eq_false (by omega)]; rfl
  · rw [decide_eq_false h, decide_eq_true (by omega)]; rfl
theorem sIsRingRow_any (o : Option Addr) (n c : Nat) (x : Nat → Nat → Int) (hn : n ≤ 1048576) (w : World) (h : PoolAt w o n x) : Calls Try.prog 30 #[poolV o n c] w fun e w' => e = .returned (.tuple #[.bool (ringV n x), .bool (rowB n x)]) ∧ Below w.heap.size w w' := by
  have H := Lib.hid h; clear h
  cases g : rowB n x
  · have HV := Lib.hid (show ringV n x = false by unfold ringV; rw [g]; rfl)
    rw [HV.out]
    go_enter Try.func30, Try.ntmps30
    go_wp2_with fail
    go_at_call 73
    refine (l3Row_any o n c x hn _ H.out).mono ?_
    rintro e w1 ⟨rfl, hb1⟩
    have HB1 := Lib.hid hb1; clear hb1
    rw [g]
    go_wp2
    go_ret2
    exact ⟨rfl, HB1.out⟩
  · obtain ⟨n1, n6⟩ := row_le g
    have HV := Lib.hid (show ringV n x = ringB n x by unfold ringV; rw [g]; rfl)
    rw [HV.out]
    go_enter Try.func30, Try.ntmps30
    go_wp2_with fail
    go_at_call 73
    refine (l3Row_any o n c x hn _ H.out).mono ?_
    rintro e w1 ⟨rfl, hb1⟩
    have HB1 := Lib.hid hb1; clear hb1
    rw [g]
    clear g
    go_wp2
    go_loopw [4] (fun i wr => ∃ k : Nat, k ≤ n ∧ i = .int .i64 (k : Int) ∧ Hid (∀ j, j < k → ringAt n x j = true) ∧ Below w.heap.size w wr) (fun i _ => n - (intOf i).toNat)
    case atStart => exact ⟨0, by omega, rfl, (fun j hj => by omega), HB1.out⟩
    case round =>
      obtain ⟨k, hk, rfl, HO, hb⟩ := hrel
      clear HB1
      by_cases hlt : k < n
      · have d0 : decide ((k : Int) < (n : Int)) = true := by simp; omega
        obtain ⟨a1, rfl, hd⟩ := dice6 (H.out.below hb) hlt
        have HD := Lib.hid hd
        have HB2 := Lib.hid hb
        clear hb hd
        obtain ⟨r, hr⟩ : ∃ r, r = (k + 1) % n := ⟨_, rfl⟩
        have rlt : r < n := by rw [hr]; exact Nat.mod_lt _ (by omega)
        have e1 : Int.tmod ((k : Int) + 1) (n : Int) = (r : Int) := by have := tmod_nat (k + 1) n; rw [hr, ← this]; rfl
        have e2 : ((k : Int) + 1) % (n : Int) = (r : Int) := by rw [hr]; rfl
        have e0 : IntKind.i64.wrap ((k : Int) + 1) = (k : Int) + 1 := IntWalk.i64_in _ (by omega)
        have d1 : ((n : Int) == 0) = false := by simp; omega
        have HR := Lib.hid hr
        clear hr
        have E := Lib.hid (And.intro e0 (And.intro e1 e2))
        cases gb : beatB (x k) (x r)
        · have GB := Lib.hid (show ringAt n x k = false by unfold ringAt; rw [← HR.out]; exact gb)
          go_wp2
          refine wp_region_grown_lit (by kernel_rfl) (by kernel_rfl) ?_
          repeat (first | go_big_quiet_skip | (go_big_quiet_want; (first | (refine grown_load_pool _ rfl (HD.out) rfl ?_ ?_; omega; simp only [Act.put, List.setIfInBounds_toArray, List.set_cons_succ, List.set_cons_zero]; go_big_quiet_on) | (go_big_quiet_op; (first | go_big_quiet_on | (refine ⟨_, fun _ _ => rfl, ?_⟩; go_big_quiet_on) | (apply Exists.intro; refine ⟨fun _ hC => ?_, ?_⟩; (first | (go_at_call 74; exact grown_of hC (l3Beats_any _ _ _))); go_big_quiet_on))))))
          refine wpQuiet_nil ?_
          intro wg hg
          have HB3 := Lib.hid (HB2.out.trans (hg.below.mono HB2.out.size))
          clear hg e0 e1 e2
          go_wp2
          go_ret2
          exact ⟨by rw [ringB_no hlt GB.out]; rfl, HB3.out⟩
        · have GB := Lib.hid (show ringAt n x k = true by unfold ringAt; rw [← HR.out]; exact gb)
          go_wp2
          refine wp_region_grown_lit (by kernel_rfl) (by kernel_rfl) ?_
          repeat (first | go_big_quiet_skip | (go_big_quiet_want; (first | (refine grown_load_pool _ rfl (HD.out) rfl ?_ ?_; omega; simp only [Act.put, List.setIfInBounds_toArray, List.set_cons_succ, List.set_cons_zero]; go_big_quiet_on) | (go_big_quiet_op; (first | go_big_quiet_on | (refine ⟨_, fun _ _ => rfl, ?_⟩; go_big_quiet_on) | (apply Exists.intro; refine ⟨fun _ hC => ?_, ?_⟩; (first | (go_at_call 74; exact grown_of hC (l3Beats_any _ _ _))); go_big_quiet_on))))))
          refine wpQuiet_nil ?_
          intro wg hg
          have HB3 := Lib.hid (HB2.out.trans (hg.below.mono HB2.out.size))
          clear hg e0 e1 e2
          go_wp2
          go_roundw
          case rel => exact ⟨k + 1, by omega, by go_num, (fun j hj => if e : j = k then e ▸ GB.out else HO.out j (by omega)), HB3.out⟩
          case measure => simp [intOf]; omega
      · have HE := Lib.hid (show k = n by omega)
        have HF := Lib.hid (ringB_yes (n := n) (x := x) (fun j hj => HO.out j (by omega)))
        have HB2 := Lib.hid hb
        have d0 : decide ((k : Int) < (n : Int)) = false := by simp; omega
        clear hb
        by_cases h3 : 3 ≤ n
        · have HG := Lib.hid (decide_eq_true h3)
          have d3 : decide ((3 : Int) ≤ (n : Int)) = true := by simp; omega
          go_wp2
          go_ret2
          exact ⟨by rw [HF.out, HG.out]; rfl, HB2.out⟩
        · have HG := Lib.hid (decide_eq_false h3)
          have d3 : decide ((3 : Int) ≤ (n : Int)) = false := by simp; omega
          go_wp2
          go_ret2
          exact ⟨by rw [HF.out, HG.out]; rfl, HB2.out⟩
set_option maxHeartbeats 1000000 in
theorem isRing_any (o : Option Addr) (n c : Nat) (x : Nat → Nat → Int) (n1 : 1 ≤ n) (n6 : n ≤ 6) (p : Option Addr) (cp B : Nat) (w : World) (h : PoolAt w o n x) (hI : Ints w B p n cp (fun i => (i : Int))) : Calls Try.prog 76 #[poolV o n c, .slice p n cp] w fun e w' => e = .returned (.bool (ringB n x)) ∧ Below w.heap.size w w' := by
  have H := Lib.hid h; clear h
  have HI := Lib.hid hI; clear hI
  go_enter Try.func76, Try.ntmps76
  go_wp2
  go_loopw [9] (fun i wr => ∃ k : Nat, k ≤ n ∧ i = .int .i64 (k : Int) ∧ Hid (∀ j, j < k → ringAt n x j = true) ∧ Below w.heap.size w wr) (fun i _ => n - (intOf i).toNat)
  case atStart => exact ⟨0, by omega, rfl, (fun j hj => by omega), Below.refl _ _⟩
  case round =>
    obtain ⟨k, hk, rfl, HO, hb⟩ := hrel
    by_cases hlt : k < n
    · have d0 : decide (k < n) = true := by simp; omega
      obtain ⟨a1, rfl, hd⟩ := dice6 (H.out.below hb) hlt
      obtain ⟨r, hr⟩ : ∃ r, r = (k + 1) % n := ⟨_, rfl⟩
      have rlt : r < n := by rw [hr]; exact Nat.mod_lt _ (by omega)
      obtain ⟨gp, hp, _, _, c0⟩ := (HI.out.below hb).cell hlt
      obtain ⟨gp2, hp2, _, _, c1⟩ := (HI.out.below hb).cell rlt
      obtain rfl : gp = gp2 := by rw [hp] at hp2; injection hp2 with q; injection q
      subst hp
      clear hp2
      have HD := Lib.hid hd
      have HB2 := Lib.hid hb
      have C1 := Lib.hid c1
      clear hb hd
      have e1 : Int.tmod ((k : Int) + 1) (n : Int) = (r : Int) := by have := tmod_nat (k + 1) n; rw [hr, ← this]; rfl
      have e2 : ((k : Int) + 1) % (n : Int) = (r : Int) := by rw [hr]; rfl
      have e0 : IntKind.i64.wrap ((k : Int) + 1) = (k : Int) + 1 := IntWalk.i64_in _ (by omega)
      have d1 : ((n : Int) == 0) = false := by simp; omega
      have HR := Lib.hid hr
      have HL := Lib.hid (beatI_leq (x k) (x r))
      clear hr
      cases gb : beatB (x k) (x r)
      · have GB := Lib.hid (show ringAt n x k = false by unfold ringAt; rw [← HR.out]; exact gb)
        have d2 : decide (beatI (x k) (x r) ≤ 0) = true := by rw [HL.out, gb]; rfl
        go_wp2
        refine wp_region_grown_lit (by kernel_rfl) (by kernel_rfl) ?_
        repeat (first | go_big_quiet_skip | (go_big_quiet_want; (first | (refine grown_load_pool _ rfl (HD.out) rfl ?_ ?_; omega; simp only [Act.put, List.setIfInBounds_toArray, List.set_cons_succ, List.set_cons_zero]; go_big_quiet_on) | (refine grown_load_int 3 _ rfl rfl (C1.out) Try.isAgg3 ?_; simp only [Act.put, List.setIfInBounds_toArray, List.set_cons_succ, List.set_cons_zero]; go_big_quiet_on) | (go_big_quiet_op; (first | go_big_quiet_on | (refine ⟨_, fun _ _ => rfl, ?_⟩; go_big_quiet_on) | (apply Exists.intro; refine ⟨fun _ hC => ?_, ?_⟩; (first | (go_at_call 86; exact grown_of hC (beats_any _ _ _))); go_big_quiet_on))))))
        refine wpQuiet_nil ?_
        intro wg hg
        have HB3 := Lib.hid (HB2.out.trans (hg.below.mono HB2.out.size))
        clear hg e0 e1 e2 c0 c1
        go_wp2
        go_ret
        exact ⟨by rw [ringB_no hlt GB.out]; rfl, HB3.out⟩
      · have GB := Lib.hid (show ringAt n x k = true by unfold ringAt; rw [← HR.out]; exact gb)
        have d2 : decide (beatI (x k) (x r) ≤ 0) = false := by rw [HL.out, gb]; rfl
        go_wp2
        refine wp_region_grown_lit (by kernel_rfl) (by kernel_rfl) ?_
        repeat (first | go_big_quiet_skip | (go_big_quiet_want; (first | (refine grown_load_pool _ rfl (HD.out) rfl ?_ ?_; omega; simp only [Act.put, List.setIfInBounds_toArray, List.set_cons_succ, List.set_cons_zero]; go_big_quiet_on) | (refine grown_load_int 3 _ rfl rfl (C1.out) Try.isAgg3 ?_; simp only [Act.put, List.setIfInBounds_toArray, List.set_cons_succ, List.set_cons_zero]; go_big_quiet_on) | (go_big_quiet_op; (first | go_big_quiet_on | (refine ⟨_, fun _ _ => rfl, ?_⟩; go_big_quiet_on) | (apply Exists.intro; refine ⟨fun _ hC => ?_, ?_⟩; (first | (go_at_call 86; exact grown_of hC (beats_any _ _ _))); go_big_quiet_on))))))
        refine wpQuiet_nil ?_
        intro wg hg
        have HB3 := Lib.hid (HB2.out.trans (hg.below.mono HB2.out.size))
        clear hg e0 e1 e2 c0 c1
        go_wp2
        go_roundw
        case rel => exact ⟨k + 1, by omega, by go_num, (fun j hj => if e : j = k then e ▸ GB.out else HO.out j (by omega)), HB3.out⟩
        case measure => simp [intOf]; omega
    · have HF := Lib.hid (ringB_yes (n := n) (x := x) (fun j hj => HO.out j (by omega)))
      have HB2 := Lib.hid hb
      have d0 : decide (k < n) = false := by simp; omega
      clear hb
      by_cases h3 : 3 ≤ n
      · have HG := Lib.hid (decide_eq_true h3)
        have d3 : decide ((3 : Int) ≤ (n : Int)) = true := by simp; omega
        go_wp2
        go_ret
        exact ⟨by rw [HF.out, HG.out]; rfl, HB2.out⟩
      · have HG := Lib.hid (decide_eq_false h3)
        have d3 : decide ((3 : Int) ≤ (n : Int)) = false := by simp; omega
        go_wp2
        go_ret
        exact ⟨by rw [HF.out, HG.out]; rfl, HB2.out⟩
set_option maxHeartbeats 1000000 in
theorem iIsRingRow_any (o : Option Addr) (n c : Nat) (x : Nat → Nat → Int) (hn : n ≤ 1048576) (w : World) (h : PoolAt w o n x) : Calls Try.prog 31 #[poolV o n c] w fun e w' => e = .returned (.tuple #[.bool (ringV n x), .bool (rowB n x)]) ∧ Below w.heap.size w w' := by
  have H := Lib.hid h; clear h
  cases g : rowB n x
  · have HV := Lib.hid (show ringV n x = false by unfold ringV; rw [g]; rfl)
    rw [HV.out]
    go_enter Try.func31, Try.ntmps31
    go_wp2_with fail
    go_at_call 75
    refine (isRow_any o n c x hn _ H.out).mono ?_
    rintro e w1 ⟨rfl, hb1⟩
    have HB1 := Lib.hid hb1; clear hb1
    rw [g]
    go_wp2
    go_ret2
    exact ⟨rfl, HB1.out⟩
  · obtain ⟨n1, n6⟩ := row_le g
    have HV := Lib.hid (show ringV n x = ringB n x by unfold ringV; rw [g]; rfl)
    rw [HV.out]
    go_enter Try.func31, Try.ntmps31
    go_wp2_with fail
    go_at_call 75
    refine (isRow_any o n c x hn _ H.out).mono ?_
    rintro e w1 ⟨rfl, hb1⟩
    have HB1 := Lib.hid hb1; clear hb1
    rw [g]
    clear g
    go_wp2
    go_loopw [4, 11] (fun v i wr => ∃ k : Nat, k ≤ n ∧ i = .int .i64 (k : Int) ∧ (∃ A cp, v = .slice A k cp ∧ Ints wr w1.heap.size A k cp (fun i => (i : Int))) ∧ Below w.heap.size w wr ∧ w1.heap.size ≤ wr.heap.size) (fun v i _ => n - (intOf i).toNat)
    case atStart => exact ⟨0, by omega, rfl, ⟨none, 0, rfl, Ints.nil _ _ _⟩, HB1.out, Nat.le_refl _⟩
    case round =>
      obtain ⟨k, hk, rfl, ⟨A, cp, rfl, hI⟩, hb, hz⟩ := hrel
      have HI := Lib.hid hI; have HB2 := Lib.hid hb; have HZ := Lib.hid hz
      have HS := Lib.hid HB1.out.size
      clear hI hb hz
      by_cases hlt : k < n
      · have d0 : decide (k < n) = true := by simp; omega
        have Z1 := Lib.hid (show (wr.alloc (.cells #[.int .i64 (k : Int)] 3)).cell? ⟨wr.heap.size, 0, none⟩ = some (.int .i64 (k : Int)) by simp)
        have Z2 := Lib.hid (HI.out.below ((Below.refl wr.heap.size wr).alloc (Nat.le_refl _) (.cells #[.int .i64 (k : Int)] 3)))
        have Z3 := Lib.hid (show w1.heap.size ≤ (wr.alloc (.cells #[.int .i64 (k : Int)] 3)).heap.size by have := HZ.out; simp; omega)
        have Z4 := Lib.hid (show k ≤ 1000000 by omega)
        go_wp2_with (first | (((with_reducible apply wpList_append_int); (case hgd => rfl); (case ho => rfl); (case hs => rfl); (case hx => rfl); (case hS => exact Try.underlying35); (case hown => exact Z2.out); (case hz => exact Z1.out); (case hf => rfl); (case hm => exact Z4.out); (case hB => exact Z3.out); intro A2 c2 w2 hI2 hg2)) | fail)
        go_roundw
        case rel => exact ⟨k + 1, by omega, by go_num, ⟨A2, c2, rfl, hI2⟩, Ints.append_below HB2.out HI.out HS.out hg2, by have := HZ.out; have := Ints.append_size hg2; omega⟩
        case measure => simp [intOf]; omega
      · obtain rfl : k = n := by omega
        have d0 : decide (k < k) = false := by simp
        go_wp2_with fail
        go_at_call 76
        refine (isRing_any o k c x n1 n6 A cp w1.heap.size _ (H.out.below HB2.out) HI.out).mono ?_
        rintro e w2 ⟨rfl, hb2⟩
        have HB3 := Lib.hid (HB2.out.trans (hb2.mono HB2.out.size)); clear hb2
        go_wp2
        go_ret2
        exact ⟨rfl, HB3.out⟩
end Go.Proofs.Ytiibpnhjdfjdkaa
