/- LevelPairs, both sides. -/
import Derived.Test.YtiibpnhjdfjdkaaSlice1
import Derived.Test.YtiibpnhjdfjdkaaTable5
set_option linter.unusedVariables false
set_option linter.unusedSimpArgs false
set_option linter.unusedSectionVars false
namespace Go.Proofs.Ytiibpnhjdfjdkaa
open Go.RowKit
/-- Neither of two dice beats the other. -/
def levB (a b : Nat → Int) : Bool := !beatB a b && !beatB b a
/-- What die i adds, with dice i + 1 to k. -/
def levI (x : Nat → Nat → Int) (i : Nat) (acc : List Int) : Nat → List Int
  | 0 => acc
  | m + 1 => if levB (x i) (x (i + 1 + m)) then levI x i acc m ++ [(i : Int), ((i + 1 + m : Nat) : Int)] else levI x i acc m
def levL (n : Nat) (x : Nat → Nat → Int) : Nat → List Int
  | 0 => []
  | i + 1 => levI x i (levL n x i) (n - (i + 1))
theorem levI_len (x : Nat → Nat → Int) (i : Nat) (acc : List Int) : ∀ m, ∃ c, (levI x i acc m).length = acc.length + c * 2 ∧ c ≤ m
  | 0 => ⟨0, by simp [levI], Nat.le_refl _⟩
  | m + 1 => by
    obtain ⟨c, h1, h2⟩ := levI_len x i acc m
    simp only [levI]
    split
    · exact ⟨c + 1, by simp; omega, by omega⟩
    · exact ⟨c, h1, by omega⟩
theorem levL_len {n : Nat} (x : Nat → Nat → Int) (h6 : n ≤ 6) : ∀ i, ∃ c, (levL n x i).length = c * 2 ∧ c ≤ i * 6
  | 0 => ⟨0, by simp [levL], by omega⟩
  | i + 1 => by
    obtain ⟨c, h1, h2⟩ := levL_len x h6 i
    obtain ⟨c', h3, h4⟩ := levI_len x i (levL n x i) (n - (i + 1))
    exact ⟨c + c', by simp only [levL]; omega, by omega⟩
noncomputable def levList (n : Nat) (x : Nat → Nat → Int) : List Int := if rowB n x then levL n x n else []
noncomputable def levN (n : Nat) (x : Nat → Nat → Int) : Nat := (levList n x).length / 2
noncomputable def levF (n : Nat) (x : Nat → Nat → Int) : Nat → Int := at0 (levList n x)
theorem levN_le (n : Nat) (x : Nat → Nat → Int) : levN n x ≤ 1000000 := by
  unfold levN levList
  cases g : rowB n x
  · simp
  · have h := row_le g
    obtain ⟨c, h1, h2⟩ := levL_len x h.2 n
    simp only [if_true]
    omega
theorem levB_comm (a b : Nat → Int) : levB a b = levB b a := by unfold levB; rw [Bool.and_comm]
theorem sumF_add (f g : Nat → Int) : ∀ m, sumF f m + sumF g m = sumF (fun k => f k + g k) m
  | 0 => rfl
  | m + 1 => by have := sumF_add f g m; simp only [sumF] at *; omega
theorem sumF_swap (F : Nat → Nat → Int) (m : Nat) : ∀ n, sumF (fun i => sumF (fun k => F i k) m) n = sumF (fun k => sumF (fun i => F i k) n) m
  | 0 => by simp only [sumF]; exact (sumF_zero m).symm
  | n + 1 => by
    simp only [sumF]
    rw [sumF_swap F m n]
    exact sumF_add _ _ m
theorem cmpRow_sum (a : Int) (b c : Nat → Int) (v : Nat) : ∀ k, cmpRow a b c k v = c v + sumF (fun j => if place a (b j) = v then 1 else 0) k
  | 0 => by simp [cmpRow, sumF]
  | k + 1 => by
    simp only [cmpRow, sumF, upd]
    by_cases h : v = place a (b k)
    · rw [if_pos h, if_pos h.symm, ← h, cmpRow_sum a b c v k]; omega
    · rw [if_neg h, if_neg (fun e => h e.symm), cmpRow_sum a b c v k]; omega
theorem cmpAll_sum (a b : Nat → Int) (v : Nat) : ∀ i, cmpAll a b i v = sumF (fun i => sumF (fun j => if place (a i) (b j) = v then 1 else 0) 6) i
  | 0 => rfl
  | i + 1 => by
    show cmpRow (a i) b (cmpAll a b i) 6 v = _
    rw [cmpRow_sum, cmpAll_sum a b v i]
    rfl
theorem place_swap (x y : Int) : (place x y = 0 ↔ place y x = 2) := by
  unfold place
  by_cases h1 : y < x
  · rw [if_pos h1, if_neg (by omega), if_neg (by omega)]
    simp
  · rw [if_neg h1]
    by_cases h2 : x < y
    · rw [if_pos h2, if_neg (by omega)]; simp
    · rw [if_neg h2, if_pos (by omega), if_pos (by omega)]; simp
theorem cmpAll_swap (a b : Nat → Int) : cmpAll b a 6 2 = cmpAll a b 6 0 := by
  rw [cmpAll_sum, cmpAll_sum, sumF_swap]
  apply sumF_congr
  intro i _
  apply sumF_congr
  intro k _
  have := place_swap (a i) (b k)
  by_cases h : place (a i) (b k) = 0
  · rw [if_pos (this.1 h), if_pos h]
  · rw [if_neg (fun e => h (this.2 e)), if_neg h]
theorem beatI_zero (a b : Nat → Int) : (beatI a b == 0) = levB a b := by
  have h1 := cmpAll_swap a b
  have h2 := cmpAll_swap b a
  unfold beatI levB beatB cmpI
  rw [h1, ← h2]
  by_cases c1 : cmpAll a b 6 0 < cmpAll a b 6 2
  · rw [if_pos c1, decide_eq_false (by omega), decide_eq_true c1]; rfl
  · rw [if_neg c1]
    by_cases c2 : cmpAll a b 6 2 < cmpAll a b 6 0
    · rw [if_pos c2, decide_eq_true c2]; rfl
    · rw [if_neg c2, decide_eq_false c2, decide_eq_false c1]; rfl
theorem l3Beats_val {a b : Nat → Int} {v : Bool} (h : beatB a b = v) (w : World) : Calls Try.prog 74 #[dieV a, dieV b] w fun e w' => e = .returned (.bool v) ∧ Below w.heap.size w w' := by
  have := l3Beats_any a b w
  rw [h] at this
  exact this
/-- A list of pairs of ints, by place: what an append adds. -/
theorem at0_two (l : List Int) (p q : Int) : ∀ j, j < 2 → at0 (l ++ [p, q]) (l.length + j) = if j = 0 then p else q := by
  intro j hj
  unfold at0
  rw [List.getD_eq_getElem?_getD, List.getElem?_append_right (by omega)]
  have : j = 0 ∨ j = 1 := by omega
  rcases this with rfl | rfl <;> simp
theorem at0_front {l r : List Int} {i : Nat} (h : i < l.length) : at0 l i = at0 (l ++ r) i := by
  unfold at0
  rw [List.getD_eq_getElem?_getD, List.getD_eq_getElem?_getD, List.getElem?_append_left h]
/-- append(out, [2]int{p, q}), out of the call's own. -/
theorem wpList_append_pair {ops : Array Oper} {rest : List Oper} {o : Oper} {a : Act} {w : World} {Q : Exit → Act → World → Prop} (hgd : o.guard = none) {s y : Operand} {S : TypeId} (hS : Try.prog.underlying S = some (.slice 43))
    (ho : o.op = .call { callee := .builtin .append, args := #[s, y], argTypes := #[S, S] }) {B m c g : Nat} {A : Option Addr} {l : List Int} {p q : Int} (hs : a.eval s = .slice A m c) (hx : a.eval y = .slice (some ⟨g, 0, none⟩) 1 1)
    (hz : Blk w g 2 43 (I fun i => if i = 0 then p else q)) (hl : l.length = m * 2) (hown : Arrs w 43 2 B A m c (at0 l)) (hm : m ≤ 1000000) (hB : B ≤ w.heap.size)
    (h : ∀ A' c' w', Arrs w' 43 2 B A' (m + 1) c' (at0 (l ++ [p, q])) → w.grownBy w' (Value.ownBlock (.slice A m c)) → wpList Try.prog ops Q rest (a.put o.dst (.slice A' (m + 1) c')) w') : wpList Try.prog ops Q (o :: rest) a w :=
  wpList_append_arr2 (f := at0 (l ++ [p, q])) (z := fun i => if i = 0 then p else q) hgd hS ho hs hx (fun j hj => hz.cell hj) (fun j hj => by rw [← hl]; exact at0_two l p q j hj) (hown.congr fun i hi => at0_front (by rw [hl]; exact hi)) hm hB h
set_option maxRecDepth 100000 in
set_option maxHeartbeats 2000000 in
theorem sLevelPairs_any (o : Option Addr) (n c : Nat) (x : Nat → Nat → Int) (hn : n ≤ 1048576) (w : World) (h : PoolAt w o n x) : Calls Try.prog 48 #[poolV o n c] w fun e w' => ∃ A cp, e = .returned (.tuple #[.slice A (levN n x) cp, .bool (rowB n x)]) ∧ Arrs w' 43 2 w.heap.size A (levN n x) cp (levF n x) ∧ Below w.heap.size w w' := by
  have H := Lib.hid h; clear h
  cases g : rowB n x
  · have HV := Lib.hid (show levN n x = 0 by unfold levN levList; rw [g]; simp)
    have HF := Lib.hid (show levF n x = at0 [] by unfold levF levList; rw [g]; rfl)
    rw [HV.out, HF.out]
    go_enter Try.func48, Try.ntmps48
    go_wp2_with fail
    go_at_call 73
    refine (l3Row_any o n c x hn _ (H.out.alloc _)).mono ?_
    rintro e w1 ⟨rfl, hb1⟩
    have HB1 := Lib.hid hb1; clear hb1
    have I1 := Lib.hid ((Arrs.empty w 43 2 w.heap.size (at0 []) (Nat.le_refl _)).below HB1.out)
    have HB1 := Lib.hid (((Below.refl w.heap.size w).alloc (Nat.le_refl _) (.cells #[] 43)).trans (HB1.out.mono (by simp)))
    rw [g]
    go_wp2
    go_ret2
    exact ⟨_, 0, rfl, I1.out, HB1.out⟩
  · obtain ⟨n1, n6⟩ := row_le g
    have HF := Lib.hid (show levF n x = at0 (levL n x n) by unfold levF levList; rw [g]; rfl)
    have HV := Lib.hid (show levN n x = (levL n x n).length / 2 by unfold levN levList; rw [g]; rfl)
    rw [HV.out, HF.out]
    go_enter Try.func48, Try.ntmps48
    go_wp2_with fail
    go_at_call 73
    refine (l3Row_any o n c x hn _ (H.out.alloc _)).mono ?_
    rintro e w1 ⟨rfl, hb1⟩
    have HB1 := Lib.hid hb1; clear hb1
    have I1 := Lib.hid ((Arrs.empty w 43 2 w.heap.size (at0 []) (Nat.le_refl _)).below HB1.out)
    have HB1 := Lib.hid (((Below.refl w.heap.size w).alloc (Nat.le_refl _) (.cells #[] 43)).trans (HB1.out.mono (by simp)))
    rw [g]
    clear g
    go_wp2
    go_loopw [4, 5] (fun v i wr => ∃ k : Nat, k ≤ n ∧ i = .int .i64 (k : Int) ∧ (∃ A cp m, v = .slice A m cp ∧ (levL n x k).length = m * 2 ∧ Arrs wr 43 2 w.heap.size A m cp (at0 (levL n x k))) ∧ Below w.heap.size w wr) (fun v i _ => n - (intOf i).toNat)
    case atStart => exact ⟨0, by omega, rfl, ⟨_, 0, 0, rfl, rfl, I1.out⟩, HB1.out⟩
    case round =>
      obtain ⟨i, hi, rfl, ⟨A, cp, m, rfl, hL, hI⟩, hb⟩ := hrel
      have HI := Lib.hid hI; have HB := Lib.hid hb; have HL := Lib.hid hL
      clear hI hb HB1 I1 hL
      by_cases hlt : i < n
      · have d0 : decide (i < n) = true := by simp; omega
        obtain ⟨wo, rfl⟩ : ∃ wo : World, wo = wr := ⟨_, rfl⟩
        go_wp2
        go_loopw [4, 6] (fun v k wr => ∃ j : Nat, j ≤ n - (i + 1) ∧ k = .int .i64 ((i + 1 + j : Nat) : Int) ∧ (∃ A cp m, v = .slice A m cp ∧ (levI x i (levL n x i) j).length = m * 2 ∧ Arrs wr 43 2 w.heap.size A m cp (at0 (levI x i (levL n x i) j))) ∧ Below w.heap.size w wr) (fun v k _ => n - (intOf k).toNat)
        case atStart => exact ⟨0, by omega, by go_num, ⟨A, cp, m, rfl, HL.out, HI.out⟩, HB.out⟩
        case round =>
          obtain ⟨j, hj, rfl, ⟨A, cp, m, rfl, hL, hI⟩, hb⟩ := hrel
          clear HI HB HL
          have HI := Lib.hid hI
          have HB2 := Lib.hid hb
          have HLN := Lib.hid hL
          clear hI hb hL
          obtain ⟨k, hk⟩ : ∃ k, k = i + 1 + j := ⟨_, rfl⟩
          have HK := Lib.hid hk
          rw [← hk]
          have Z4 := Lib.hid (show m ≤ 1000000 by
            obtain ⟨q1, q2, q3⟩ := levL_len x n6 i
            obtain ⟨q4, q5, q6⟩ := levI_len x i (levL n x i) j
            have := HLN.out
            omega)
          by_cases hlk : k < n
          · have d1 : decide (k < n) = true := by simp; omega
            have kj : j < n - (i + 1) := by omega
            have HJ := Lib.hid (show j + 1 ≤ n - (i + 1) by omega)
            clear hk
            obtain ⟨a1, rfl, hd⟩ := dice6 (H.out.below HB2.out) hlt
            have HD := Lib.hid hd
            clear hd
            cases gb1 : beatB (x i) (x k)
            · cases gb2 : beatB (x k) (x i)
              · have G1 := Lib.hid gb1; have G2 := Lib.hid gb2
                have HE := Lib.hid (show levI x i (levL n x i) (j + 1) = levI x i (levL n x i) j ++ [(i : Int), (k : Int)] by simp only [levI]; rw [← HK.out]; unfold levB; rw [gb1, gb2]; rfl)
                clear gb1 gb2
                go_wp2
                refine wp_region_grown_lit (by kernel_rfl) (by kernel_rfl) ?_
                repeat (first | go_big_quiet_skip | (go_big_quiet_want; (first | (refine grown_load_pool _ rfl (HD.out) rfl ?_ ?_; omega; simp only [Act.put, List.setIfInBounds_toArray, List.set_cons_succ, List.set_cons_zero]; go_big_quiet_on) | (go_big_quiet_op; (first | go_big_quiet_on | (refine ⟨_, fun _ _ => rfl, ?_⟩; go_big_quiet_on) | (apply Exists.intro; refine ⟨fun _ hC => ?_, ?_⟩; (first | (go_at_call 74; with_reducible exact grown_of hC (l3Beats_val G1.out _)) | (go_at_call 74; with_reducible exact grown_of hC (l3Beats_val G2.out _))); go_big_quiet_on))))))
                refine wpQuiet_nil ?_
                intro wg hg
                have HI3 := Lib.hid (HI.out.below hg.below)
                have HB3 := Lib.hid (HB2.out.trans (hg.below.mono HB2.out.size))
                clear hg
                have Z1 := Lib.hid (Blk.new wg 2 43 (I fun q => if q = 0 then (i : Int) else ((k : Int))))
                have Z2 := Lib.hid ((HI3.out).below ((Below.refl wg.heap.size wg).alloc (Nat.le_refl _) (.cells (row 2 (I fun q => if q = 0 then (i : Int) else ((k : Int)))) 43)))
                have Z3 := Lib.hid (show w.heap.size ≤ (wg.alloc (.cells (row 2 (I fun q => if q = 0 then (i : Int) else ((k : Int)))) 43)).heap.size by have := HB3.out.size; simp; omega)
                go_wp2_with (first | (((with_reducible apply wpList_build2i); (case hw => rfl); (case ho => rfl); (case hx => rfl); (case hy => rfl))) | (((with_reducible apply wpList_buildSlice1_2); (case hw => rfl); (case ho => rfl); (case hx => rfl))) | (((with_reducible apply wpList_append_pair (l := levI x i (levL n x i) j)); (case hgd => rfl); (case ho => rfl); (case hs => rfl); (case hx => rfl); (case hS => exact Try.underlying54); (case hown => exact Z2.out); (case hz => exact Z1.out); (case hl => exact HLN.out); (case hm => exact Z4.out); (case hB => exact Z3.out); intro A2 c2 w2 hI2 hg2)) | fail)
                go_roundw
                case rel => exact ⟨j + 1, HJ.out, by rw [show i + 1 + (j + 1) = k + 1 by have := HK.out; omega]; go_num, ⟨A2, c2, m + 1, rfl, by rw [HE.out]; simp [HLN.out]; omega, by rw [HE.out]; exact hI2⟩, own_append_below HB3.out HI3.out (Nat.le_refl _) hg2⟩
                case measure => simp [intOf]; omega
              · have G1 := Lib.hid gb1; have G2 := Lib.hid gb2
                have HE := Lib.hid (show levI x i (levL n x i) (j + 1) = levI x i (levL n x i) j by simp only [levI]; rw [← HK.out]; unfold levB; rw [gb1, gb2]; rfl)
                clear gb1 gb2
                go_wp2
                refine wp_region_grown_lit (by kernel_rfl) (by kernel_rfl) ?_
                repeat (first | go_big_quiet_skip | (go_big_quiet_want; (first | (refine grown_load_pool _ rfl (HD.out) rfl ?_ ?_; omega; simp only [Act.put, List.setIfInBounds_toArray, List.set_cons_succ, List.set_cons_zero]; go_big_quiet_on) | (go_big_quiet_op; (first | go_big_quiet_on | (refine ⟨_, fun _ _ => rfl, ?_⟩; go_big_quiet_on) | (apply Exists.intro; refine ⟨fun _ hC => ?_, ?_⟩; (first | (go_at_call 74; with_reducible exact grown_of hC (l3Beats_val G1.out _)) | (go_at_call 74; with_reducible exact grown_of hC (l3Beats_val G2.out _))); go_big_quiet_on))))))
                refine wpQuiet_nil ?_
                intro wg hg
                have HI3 := Lib.hid (HI.out.below hg.below)
                have HB3 := Lib.hid (HB2.out.trans (hg.below.mono HB2.out.size))
                clear hg
                go_wp2
                go_roundw
                case rel => exact ⟨j + 1, HJ.out, by rw [show i + 1 + (j + 1) = k + 1 by have := HK.out; omega]; go_num, ⟨A, cp, m, rfl, by rw [HE.out]; exact HLN.out, by rw [HE.out]; exact HI3.out⟩, HB3.out⟩
                case measure => simp [intOf]; omega
            · have G1 := Lib.hid gb1
              have HE := Lib.hid (show levI x i (levL n x i) (j + 1) = levI x i (levL n x i) j by simp only [levI]; rw [← HK.out]; unfold levB; rw [gb1]; rfl)
              clear gb1
              go_wp2
              refine wp_region_grown_lit (by kernel_rfl) (by kernel_rfl) ?_
              repeat (first | go_big_quiet_skip | (go_big_quiet_want; (first | (refine grown_load_pool _ rfl (HD.out) rfl ?_ ?_; omega; simp only [Act.put, List.setIfInBounds_toArray, List.set_cons_succ, List.set_cons_zero]; go_big_quiet_on) | (go_big_quiet_op; (first | go_big_quiet_on | (refine ⟨_, fun _ _ => rfl, ?_⟩; go_big_quiet_on) | (apply Exists.intro; refine ⟨fun _ hC => ?_, ?_⟩; (first | (go_at_call 74; with_reducible exact grown_of hC (l3Beats_val G1.out _))); go_big_quiet_on))))))
              refine wpQuiet_nil ?_
              intro wg hg
              have HI3 := Lib.hid (HI.out.below hg.below)
              have HB3 := Lib.hid (HB2.out.trans (hg.below.mono HB2.out.size))
              clear hg
              go_wp2
              go_roundw
              case rel => exact ⟨j + 1, HJ.out, by rw [show i + 1 + (j + 1) = k + 1 by have := HK.out; omega]; go_num, ⟨A, cp, m, rfl, by rw [HE.out]; exact HLN.out, by rw [HE.out]; exact HI3.out⟩, HB3.out⟩
              case measure => simp [intOf]; omega
          · have d1 : decide (k < n) = false := by simp; omega
            have HE := Lib.hid (show j = n - (i + 1) by omega)
            clear hk
            go_wp2
            go_roundw
            case rel => exact ⟨i + 1, by omega, by go_num, ⟨A, cp, m, rfl, by simp only [levL]; rw [← HE.out]; exact HLN.out, by simp only [levL]; rw [← HE.out]; exact HI.out⟩, HB2.out⟩
            case measure => simp [intOf]; omega
      · obtain rfl : i = n := by omega
        have d0 : decide (i < i) = false := by simp
        have HM := Lib.hid (show (levL i x i).length / 2 = m by rw [HL.out]; omega)
        go_wp2
        go_ret2
        exact ⟨A, cp, by rw [HM.out]; rfl, by rw [HM.out]; exact HI.out, HB.out⟩
set_option maxRecDepth 100000 in
set_option maxHeartbeats 2000000 in
theorem iLevelPairs_any (o : Option Addr) (n c : Nat) (x : Nat → Nat → Int) (hn : n ≤ 1048576) (w : World) (h : PoolAt w o n x) : Calls Try.prog 49 #[poolV o n c] w fun e w' => ∃ A cp, e = .returned (.tuple #[.slice A (levN n x) cp, .bool (rowB n x)]) ∧ Arrs w' 43 2 w.heap.size A (levN n x) cp (levF n x) ∧ Below w.heap.size w w' := by
  have H := Lib.hid h; clear h
  cases g : rowB n x
  · have HV := Lib.hid (show levN n x = 0 by unfold levN levList; rw [g]; simp)
    have HF := Lib.hid (show levF n x = at0 [] by unfold levF levList; rw [g]; rfl)
    rw [HV.out, HF.out]
    go_enter Try.func49, Try.ntmps49
    go_wp2_with fail
    go_at_call 75
    refine (isRow_any o n c x hn _ H.out).mono ?_
    rintro e w1 ⟨rfl, hb1⟩
    have HB1 := Lib.hid hb1; clear hb1
    have I1 := Lib.hid (Arrs.nil w1 43 2 w.heap.size (at0 []))
    rw [g]
    go_wp2
    go_ret2
    exact ⟨_, 0, rfl, I1.out, HB1.out⟩
  · obtain ⟨n1, n6⟩ := row_le g
    have HF := Lib.hid (show levF n x = at0 (levL n x n) by unfold levF levList; rw [g]; rfl)
    have HV := Lib.hid (show levN n x = (levL n x n).length / 2 by unfold levN levList; rw [g]; rfl)
    rw [HV.out, HF.out]
    go_enter Try.func49, Try.ntmps49
    go_wp2_with fail
    go_at_call 75
    refine (isRow_any o n c x hn _ H.out).mono ?_
    rintro e w1 ⟨rfl, hb1⟩
    have HB1 := Lib.hid hb1; clear hb1
    have I1 := Lib.hid (Arrs.nil w1 43 2 w.heap.size (at0 []))
    rw [g]
    clear g
    go_wp2
    go_loopw [4, 13] (fun v i wr => ∃ k : Nat, k ≤ n ∧ i = .int .i64 (k : Int) ∧ (∃ A cp m, v = .slice A m cp ∧ (levL n x k).length = m * 2 ∧ Arrs wr 43 2 w.heap.size A m cp (at0 (levL n x k))) ∧ Below w.heap.size w wr) (fun v i _ => n - (intOf i).toNat)
    case atStart => exact ⟨0, by omega, rfl, ⟨_, 0, 0, rfl, rfl, I1.out⟩, HB1.out⟩
    case round =>
      obtain ⟨i, hi, rfl, ⟨A, cp, m, rfl, hL, hI⟩, hb⟩ := hrel
      have HI := Lib.hid hI; have HB := Lib.hid hb; have HL := Lib.hid hL
      clear hI hb HB1 I1 hL
      by_cases hlt : i < n
      · have d0 : decide (i < n) = true := by simp; omega
        obtain ⟨wo, rfl⟩ : ∃ wo : World, wo = wr := ⟨_, rfl⟩
        obtain ⟨a1, rfl, hd⟩ := dice6 (H.out.below HB.out) hlt
        have HC := Lib.hid (hd i hlt).2
        clear hd
        go_wp2_with (first | (refine wpList_load_cells rfl 22 _ rfl rfl (HC.out) Try.isAgg22 sz6 ?_) | (refine wpList_alloc_blk rfl 22 rfl zero6 ?_) | (((with_reducible apply wpList_store_new); (case hw => rfl); (case ho => rfl); (case hx => rfl); (case hy => rfl); (case hg => rfl); (case hi => exact sz6); (case h1 => exact fun _ _ => rfl))) | fail)
        go_loopw [4, 7] (fun v k wr => ∃ j : Nat, j ≤ n - (i + 1) ∧ k = .int .i64 ((i + 1 + j : Nat) : Int) ∧ (∃ A cp m, v = .slice A m cp ∧ (levI x i (levL n x i) j).length = m * 2 ∧ Arrs wr 43 2 w.heap.size A m cp (at0 (levI x i (levL n x i) j))) ∧ Blk wr wo.heap.size 6 22 (I (x i)) ∧ Below w.heap.size w wr) (fun v k _ => n - (intOf k).toNat)
        case atStart => exact ⟨0, by omega, by go_num, ⟨A, cp, m, rfl, HL.out, HI.out.below ((Below.refl _ _).alloc (Nat.le_refl _) _)⟩, Blk.new _ _ _ _, HB.out.alloc HB.out.size _⟩
        case round =>
          obtain ⟨j, hj, rfl, ⟨A, cp, m, rfl, hL, hI⟩, hA, hb⟩ := hrel
          clear HI HB HL HC
          have HI := Lib.hid hI
          have HB2 := Lib.hid hb
          have HLN := Lib.hid hL
          have HA := Lib.hid hA
          clear hI hb hL hA
          obtain ⟨k, hk⟩ : ∃ k, k = i + 1 + j := ⟨_, rfl⟩
          have HK := Lib.hid hk
          rw [← hk]
          have Z4 := Lib.hid (show m ≤ 1000000 by
            obtain ⟨q1, q2, q3⟩ := levL_len x n6 i
            obtain ⟨q4, q5, q6⟩ := levI_len x i (levL n x i) j
            have := HLN.out
            omega)
          by_cases hlk : k < n
          · have d1 : decide (k < n) = true := by simp; omega
            have kj : j < n - (i + 1) := by omega
            have HJ := Lib.hid (show j + 1 ≤ n - (i + 1) by omega)
            clear hk
            obtain ⟨a2, h2, hd⟩ := dice6 (H.out.below HB2.out) hlk
            obtain rfl : a1 = a2 := Option.some.inj h2
            have HD := Lib.hid hd
            clear hd h2
            cases gb : levB (x i) (x k)
            · have d2 : (beatI (x i) (x k) == 0) = false := by rw [beatI_zero, gb]
              have HE := Lib.hid (show levI x i (levL n x i) (j + 1) = levI x i (levL n x i) j by simp only [levI]; rw [← HK.out, gb]; rfl)
              clear gb
              go_wp2
              refine wp_region_grown_lit (by kernel_rfl) (by kernel_rfl) ?_
              repeat (first | go_big_quiet_skip | (go_big_quiet_want; (first | (refine grown_load 22 _ rfl (HA.out) rfl Try.underlying22 sz6 ?_; simp only [Act.put, List.setIfInBounds_toArray, List.set_cons_succ, List.set_cons_zero]; go_big_quiet_on) | (refine grown_load_pool _ rfl (HD.out) rfl ?_ ?_; omega; simp only [Act.put, List.setIfInBounds_toArray, List.set_cons_succ, List.set_cons_zero]; go_big_quiet_on) | (go_big_quiet_op; (first | go_big_quiet_on | (refine ⟨_, fun _ _ => rfl, ?_⟩; go_big_quiet_on) | (apply Exists.intro; refine ⟨fun _ hC => ?_, ?_⟩; (first | (go_at_call 86; with_reducible exact grown_of hC (beats_any (x i) (x k) _))); go_big_quiet_on))))))
              refine wpQuiet_nil ?_
              intro wg hg
              have HI3 := Lib.hid (HI.out.below hg.below)
              have HA3 := Lib.hid (HA.out.below hg.below HA.out.lt)
              have HB3 := Lib.hid (HB2.out.trans (hg.below.mono HB2.out.size))
              clear hg
              go_wp2
              go_roundw
              case rel => exact ⟨j + 1, HJ.out, by rw [show i + 1 + (j + 1) = k + 1 by have := HK.out; omega]; go_num, ⟨A, cp, m, rfl, by rw [HE.out]; exact HLN.out, by rw [HE.out]; exact HI3.out⟩, HA3.out, HB3.out⟩
              case measure => simp [intOf]; omega
            · have d2 : (beatI (x i) (x k) == 0) = true := by rw [beatI_zero, gb]
              have HE := Lib.hid (show levI x i (levL n x i) (j + 1) = levI x i (levL n x i) j ++ [(i : Int), (k : Int)] by simp only [levI]; rw [← HK.out, gb]; rfl)
              clear gb
              go_wp2
              refine wp_region_grown_lit (by kernel_rfl) (by kernel_rfl) ?_
              repeat (first | go_big_quiet_skip | (go_big_quiet_want; (first | (refine grown_load 22 _ rfl (HA.out) rfl Try.underlying22 sz6 ?_; simp only [Act.put, List.setIfInBounds_toArray, List.set_cons_succ, List.set_cons_zero]; go_big_quiet_on) | (refine grown_load_pool _ rfl (HD.out) rfl ?_ ?_; omega; simp only [Act.put, List.setIfInBounds_toArray, List.set_cons_succ, List.set_cons_zero]; go_big_quiet_on) | (go_big_quiet_op; (first | go_big_quiet_on | (refine ⟨_, fun _ _ => rfl, ?_⟩; go_big_quiet_on) | (apply Exists.intro; refine ⟨fun _ hC => ?_, ?_⟩; (first | (go_at_call 86; with_reducible exact grown_of hC (beats_any (x i) (x k) _))); go_big_quiet_on))))))
              refine wpQuiet_nil ?_
              intro wg hg
              have HI3 := Lib.hid (HI.out.below hg.below)
              have HA3 := Lib.hid (HA.out.below hg.below HA.out.lt)
              have HB3 := Lib.hid (HB2.out.trans (hg.below.mono HB2.out.size))
              clear hg
              have Z1 := Lib.hid (Blk.new wg 2 43 (I fun q => if q = 0 then (i : Int) else ((k : Int))))
              have Z2 := Lib.hid ((HI3.out).below ((Below.refl wg.heap.size wg).alloc (Nat.le_refl _) (.cells (row 2 (I fun q => if q = 0 then (i : Int) else ((k : Int)))) 43)))
              have Z3 := Lib.hid (show w.heap.size ≤ (wg.alloc (.cells (row 2 (I fun q => if q = 0 then (i : Int) else ((k : Int)))) 43)).heap.size by have := HB3.out.size; simp; omega)
              go_wp2_with (first | (((with_reducible apply wpList_build2i); (case hw => rfl); (case ho => rfl); (case hx => rfl); (case hy => rfl))) | (((with_reducible apply wpList_buildSlice1_2); (case hw => rfl); (case ho => rfl); (case hx => rfl))) | (((with_reducible apply wpList_append_pair (l := levI x i (levL n x i) j)); (case hgd => rfl); (case ho => rfl); (case hs => rfl); (case hx => rfl); (case hS => exact Try.underlying54); (case hown => exact Z2.out); (case hz => exact Z1.out); (case hl => exact HLN.out); (case hm => exact Z4.out); (case hB => exact Z3.out); intro A2 c2 w2 hI2 hg2)) | fail)
              go_roundw
              case rel => exact ⟨j + 1, HJ.out, by rw [show i + 1 + (j + 1) = k + 1 by have := HK.out; omega]; go_num, ⟨A2, c2, m + 1, rfl, by rw [HE.out]; simp [HLN.out]; omega, by rw [HE.out]; exact hI2⟩, (HA3.out.alloc _).grown hg2 (own_blk_ne Z2.out (HA3.out.alloc _) (by decide)), own_append_below HB3.out HI3.out (Nat.le_refl _) hg2⟩
              case measure => simp [intOf]; omega
          · have d1 : decide (k < n) = false := by simp; omega
            have HE := Lib.hid (show j = n - (i + 1) by omega)
            clear hk
            go_wp2
            go_roundw
            case rel => exact ⟨i + 1, by omega, by go_num, ⟨A, cp, m, rfl, by simp only [levL]; rw [← HE.out]; exact HLN.out, by simp only [levL]; rw [← HE.out]; exact HI.out⟩, HB2.out⟩
            case measure => simp [intOf]; omega
      · obtain rfl : i = n := by omega
        have d0 : decide (i < i) = false := by simp
        have HM := Lib.hid (show (levL i x i).length / 2 = m by rw [HL.out]; omega)
        go_wp2
        go_ret2
        exact ⟨A, cp, by rw [HM.out]; rfl, by rw [HM.out]; exact HI.out, HB.out⟩
end Go.Proofs.Ytiibpnhjdfjdkaa
