/- BeatTable, both sides. -/
import Derived.Test.YtbfhfadfjgfmaaaGrid2
import Derived.Test.YtbfhfadfjgfmaaaInv
import Derived.Test.YtbfhfadfjgfmaaaCut
set_option linter.unusedVariables false
set_option linter.unusedSimpArgs false
set_option linter.unusedSectionVars false
namespace Go.Proofs.Ytbfhfadfjgfmaaa
open Go.RowKit
noncomputable def btN (n : Nat) (x : Nat → Nat → Int) : Nat := if rowB n x then n else 0
def btF (x : Nat → Nat → Int) (i j : Nat) : Int := beatI (x i) (x j)
def btLen (n : Nat) : Nat → Nat := fun _ => n
theorem btN_le (n : Nat) (x : Nat → Nat → Int) : btN n x ≤ 6 := by
  unfold btN
  cases g : rowB n x
  · simp
  · have := row_le g; simp; omega
theorem btX (n : Nat) (x : Nat → Nat → Int) : btN n x ≤ 1000 ∧ ∀ i, i < btN n x → btLen n i ≤ 1000 := by
  have h := btN_le n x
  refine ⟨by omega, fun i hi => ?_⟩
  unfold btN at h hi
  cases g : rowB n x
  · rw [g] at hi; simp at hi
  · rw [g] at h; simp at h; simp only [btLen]; omega
theorem PoolAt.cells {w : World} {a : Addr} {n i : Nat} {x : Nat → Nat → Int} (h : PoolAt w (some a) n x) (hi : i < n) : ∀ j, j < 6 → w.cell? ((a.add (i * 6)).add j) = some (I (x i) j) := by
  obtain ⟨a', e, _, h2⟩ := h i hi
  obtain rfl : a = a' := Option.some.inj e
  exact h2
theorem Grid.append_below {w0 wr w2 : World} {q : Obj} {m c : Nat} {A : Option Addr} {ad : Nat → Option Addr × Nat} {len : Nat → Nat} {f : Nat → Nat → Int} (hb : Below w0.heap.size w0 wr) (hI : Grid wr w0.heap.size A m c ad len f) (hg : (wr.alloc q).grownBy w2 (Value.ownBlock (.slice A m c))) : Below w0.heap.size w0 w2 :=
  below_grown (hb.alloc hb.size q) hg (fun g e => (hI.outer_lt e).1) (by have := hb.size; simp; omega)
/-- An append to a line of a later base leaves the grid. -/
theorem Grid.line {wo wr w2 : World} {q : Obj} {B m c n c2 : Nat} {A A2 : Option Addr} {ad : Nat → Option Addr × Nat} {len : Nat → Nat} {f : Nat → Nat → Int} {f2 : Nat → Int} (h0 : Grid wo B A m c ad len f) (h : Grid wr B A m c ad len f) (hI : Ints wr wo.heap.size A2 n c2 f2) (hg : (wr.alloc q).grownBy w2 (Value.ownBlock (.slice A2 n c2))) : Grid w2 B A m c ad len f := by
  refine (h.below ((Below.refl _ _).alloc (Nat.le_refl _) q)).grown hg ?_ fun i hi => ?_
  · cases e1 : Value.ownBlock (.slice A m c) with
    | none => exact .inl rfl
    | some g => exact .inr fun e => by have := h0.outer_lt e1; have := World.ownsRow.lt hI g e.symm; omega
  · cases e1 : (rowSl ad len i).ownBlock with
    | none => exact .inl rfl
    | some g => exact .inr fun e => by have := h0.lt hi e1; have := World.ownsRow.lt hI g e.symm; omega
theorem Ints.line_below {w0 wo wr w2 : World} {q : Obj} {n c2 : Nat} {A2 : Option Addr} {f2 : Nat → Int} (hb : Below w0.heap.size w0 wr) (hz : w0.heap.size ≤ wo.heap.size) (hI : Ints wr wo.heap.size A2 n c2 f2) (hg : (wr.alloc q).grownBy w2 (Value.ownBlock (.slice A2 n c2))) : Below w0.heap.size w0 w2 :=
  below_grown (hb.alloc hb.size q) hg (fun g e => by have := World.ownsRow.lt hI g e; omega) (by have := hb.size; simp; omega)
theorem Ints.not_line {w : World} {B m c b n : Nat} {o : Option Addr} {f : Nat → Int} {F : Nat → Value} (h : Ints w B o m c f) (hb : Blk w b n 53 F) : some b ≠ Value.ownBlock (.slice o m c) := fun e => by
  obtain ⟨cs, h1⟩ := own_typed h e.symm
  unfold Blk at hb
  rw [h1] at hb
  injection hb with hb
  injection hb with _ hb
  exact absurd hb (by decide)
set_option maxRecDepth 100000 in
set_option maxHeartbeats 2000000 in
theorem iBeatTable_any (o : Option Addr) (n c : Nat) (x : Nat → Nat → Int) (hn : n ≤ 1048576) (w : World) (h : PoolAt w o n x) : Calls Try.prog 37 #[poolV o n c] w fun e w' => ∃ A cp ad, e = .returned (.tuple #[.slice A (btN n x) cp, .bool (rowB n x)]) ∧ Grid w' w.heap.size A (btN n x) cp ad (btLen n) (btF x) ∧ Below w.heap.size w w' := by
  have H := Lib.hid h; clear h
  cases g : rowB n x
  · have HV := Lib.hid (show btN n x = 0 by unfold btN; rw [g]; rfl)
    rw [HV.out]
    go_enter Try.func37, Try.ntmps37
    go_wp2_with fail
    go_at_call 66
    refine (isRow_any o n c x hn _ H.out).mono ?_
    rintro e w1 ⟨rfl, hb1⟩
    have HB1 := Lib.hid hb1; clear hb1
    rw [g]
    go_wp2
    go_ret2
    exact ⟨none, 0, fun _ => (none, 0), rfl, Grid.nil _ _ _ _ _, HB1.out⟩
  · obtain ⟨n1, n6⟩ := row_le g
    have HV := Lib.hid (show btN n x = n by unfold btN; rw [g]; rfl)
    rw [HV.out]
    go_enter Try.func37, Try.ntmps37
    go_wp2_with fail
    go_at_call 66
    refine (isRow_any o n c x hn _ H.out).mono ?_
    rintro e w1 ⟨rfl, hb1⟩
    have HB1 := Lib.hid hb1; clear hb1
    rw [g]
    clear g
    go_wp2
    go_loopw [4, 15] (fun v i wr => ∃ k : Nat, k ≤ n ∧ i = .int .i64 (k : Int) ∧ (∃ A cp ad, v = .slice A k cp ∧ Grid wr w.heap.size A k cp ad (fun _ => n) (btF x)) ∧ Below w.heap.size w wr) (fun v i _ => n - (intOf i).toNat)
    case atStart => exact ⟨0, by omega, rfl, ⟨none, 0, fun _ => (none, 0), rfl, Grid.nil _ _ _ _ _⟩, HB1.out⟩
    case round =>
      obtain ⟨i, hi, rfl, ⟨A, cp, ad, rfl, hG⟩, hb⟩ := hrel
      have HG := Lib.hid hG; have HB := Lib.hid hb
      clear hG hb HB1
      by_cases hlt : i < n
      · have d0 : decide (i < n) = true := by simp; omega
        obtain ⟨wo, rfl⟩ : ∃ wo : World, wo = wr := ⟨_, rfl⟩
        obtain ⟨a1, rfl, hd⟩ := dice6 (H.out.below HB.out) hlt
        have HC := Lib.hid (hd i hlt).2
        clear hd
        go_wp2_with (first | (refine wpList_load_cells rfl 53 _ rfl rfl (HC.out) Try.isAgg53 sz6 ?_) | (refine wpList_alloc_blk rfl 53 rfl zero6 ?_) | (((with_reducible apply wpList_store_new); (case hw => rfl); (case ho => rfl); (case hx => rfl); (case hy => rfl); (case hg => rfl); (case hi => exact sz6); (case h1 => exact fun _ _ => rfl))) | fail)
        go_loopw [7, 21] (fun m v wr => ∃ k : Nat, k ≤ n ∧ v = .int .i64 (k : Int) ∧ (∃ A2 c2, m = .slice A2 k c2 ∧ Ints wr wo.heap.size A2 k c2 (btF x i)) ∧ (Blk wr wo.heap.size 6 53 (I (x i))) ∧ Grid wr w.heap.size A i cp ad (fun _ => n) (btF x) ∧ Below w.heap.size w wr ∧ wo.heap.size ≤ wr.heap.size) (fun m v _ => n - (intOf v).toNat)
        case atStart => exact ⟨0, by omega, rfl, ⟨none, 0, rfl, Ints.nil _ _ _⟩, Blk.new _ _ _ _, HG.out.below ((Below.refl _ _).alloc (Nat.le_refl _) _), HB.out.alloc HB.out.size _, by simp⟩
        case round =>
          obtain ⟨k, hk, rfl, ⟨A2, c2, rfl, hI⟩, hA, hG, hb, hz⟩ := hrel
          clear HC
          have HA := Lib.hid hA
          have HI2 := Lib.hid hI
          have HG2 := Lib.hid hG
          have HB2 := Lib.hid hb
          have HZ := Lib.hid hz
          clear hA hI hG hb hz
          by_cases hlk : k < n
          · have d1 : decide (k < n) = true := by simp; omega
            obtain ⟨a2, h2, hd⟩ := dice6 (H.out.below HB2.out) hlk
            obtain rfl : a1 = a2 := Option.some.inj h2
            have HC := Lib.hid (hd k hlk).2
            clear hd h2
            go_wp2_with (first | ((with_reducible apply wpList_load_cells); (case hw => rfl); (case ho => rfl); (case hx => rfl); (case hc => with_reducible exact HC.out); (case ha => exact Try.isAgg53); (case hi => exact sz6)) | (refine wpList_alloc_blk rfl 53 rfl zero6 ?_) | (((with_reducible apply wpList_store_new); (case hw => rfl); (case ho => rfl); (case hx => rfl); (case hy => rfl); (case hg => rfl); (case hi => exact sz6); (case h1 => exact fun _ _ => rfl))) | ((with_reducible apply wpList_load_blk); (case hw => rfl); (case ho => rfl); (case hx => rfl); (case hb => with_reducible exact HA.out.alloc _); (case hu => exact Try.underlying53); (case hi => exact sz6)) | ((with_reducible apply wpList_load_blk); (case hw => rfl); (case ho => rfl); (case hx => rfl); (case hb => with_reducible exact Blk.new _ _ _ _); (case hu => exact Try.underlying53); (case hi => exact sz6)) | fail)
            go_at_call 70
            refine (beats_any (x i) (x k) _).mono ?_
            rintro e w2 ⟨rfl, hb2⟩
            have HA3 := Lib.hid ((HA.out.alloc (.cells (row 6 (I (x k))) 53)).below hb2 (by have := HA.out.lt; simp; omega))
            have HI3 := Lib.hid ((HI2.out.below ((Below.refl _ _).alloc (Nat.le_refl _) (.cells (row 6 (I (x k))) 53))).below hb2)
            have HG3 := Lib.hid ((HG2.out.below ((Below.refl _ _).alloc (Nat.le_refl _) (.cells (row 6 (I (x k))) 53))).below hb2)
            have HB3 := Lib.hid ((HB2.out.alloc HB2.out.size (.cells (row 6 (I (x k))) 53)).trans (hb2.mono (by have := HB2.out.size; simp; omega)))
            have HZ3 := Lib.hid (show wo.heap.size ≤ w2.heap.size by have := hb2.size; have := HZ.out; simp at *; omega)
            clear hb2
            have Z1 := Lib.hid (show (w2.alloc (.cells #[.int .i64 (beatI (x i) (x k))] 3)).cell? ⟨w2.heap.size, 0, none⟩ = some (.int .i64 (beatI (x i) (x k))) by simp)
            have Z2 := Lib.hid (HI3.out.below ((Below.refl w2.heap.size w2).alloc (Nat.le_refl _) (.cells #[.int .i64 (beatI (x i) (x k))] 3)))
            have Z3 := Lib.hid (show wo.heap.size ≤ (w2.alloc (.cells #[.int .i64 (beatI (x i) (x k))] 3)).heap.size by have := HZ3.out; simp; omega)
            have Z4 := Lib.hid (show k ≤ 1000000 by omega)
            go_wp2_with (first | (((with_reducible apply wpList_append_int); (case hgd => rfl); (case ho => rfl); (case hs => rfl); (case hx => rfl); (case hS => exact Try.underlying60); (case hown => exact Z2.out); (case hz => exact Z1.out); (case hf => exact rfl); (case hm => exact Z4.out); (case hB => exact Z3.out); intro A3 c3 w3 hI3 hg3)) | fail)
            go_roundw
            case rel => exact ⟨k + 1, by omega, by go_num, ⟨A3, c3, rfl, hI3⟩, (HA3.out.alloc _).grown hg3 (HI3.out.not_line HA3.out), HG.out.line HG3.out HI3.out hg3, Ints.line_below HB3.out HB.out.size HI3.out hg3, by have := HZ3.out; have := Ints.append_size hg3; omega⟩
            case measure => simp [intOf]; omega
          · obtain rfl : k = n := by omega
            have d1 : decide (k < k) = false := by simp
            have Z1 := Lib.hid (show (wr.alloc (.cells #[.slice A2 k c2] 60)).cell? ⟨wr.heap.size, 0, none⟩ = some (.slice A2 k c2) by simp)
            have Z2 := Lib.hid (HG2.out.below ((Below.refl wr.heap.size wr).alloc (Nat.le_refl _) (.cells #[.slice A2 k c2] 60)))
            have Z5 := Lib.hid ((HI2.out.base (show w.heap.size ≤ wo.heap.size by have := HB.out.size; omega)).below ((Below.refl wr.heap.size wr).alloc (Nat.le_refl _) (.cells #[.slice A2 k c2] 60)))
            have Z6 := Lib.hid (show ∀ j, j < i → (rowSl ad (fun _ => k) j).ownBlock = none ∨ (rowSl ad (fun _ => k) j).ownBlock ≠ Value.ownBlock (.slice A2 k c2) from fun j hj => own_ne (HG.out.rows j hj) HI2.out (Nat.le_refl _))
            have Z3 := Lib.hid (show w.heap.size ≤ (wr.alloc (.cells #[.slice A2 k c2] 60)).heap.size by have := HB2.out.size; simp; omega)
            have Z4 := Lib.hid (show i ≤ 1000000 by omega)
            go_wp2_with (first | (((with_reducible apply wpList_append_grid); (case hgd => rfl); (case ho => rfl); (case hs => rfl); (case hx => rfl); (case hS => exact Try.underlying47); (case hgrid => exact Z2.out); (case hz => exact Z1.out); (case hn => exact rfl); (case hrow => exact Z5.out); (case hsep => exact Z6.out); (case hm => exact Z4.out); (case hB => exact Z3.out); intro A3 c3 w3 ad3 hI3 hg3)) | fail)
            go_roundw
            case rel => exact ⟨i + 1, by omega, by go_num, ⟨A3, c3, ad3, rfl, hI3⟩, Grid.append_below HB2.out HG2.out hg3⟩
            case measure => simp [intOf]; omega
      · obtain rfl : i = n := by omega
        have d0 : decide (i < i) = false := by simp
        go_wp2
        go_ret2
        exact ⟨A, cp, ad, rfl, HG.out, HB.out⟩
set_option maxRecDepth 100000 in
set_option maxHeartbeats 4000000 in
theorem sBeatTable_any (o : Option Addr) (n c : Nat) (x : Nat → Nat → Int) (hn : n ≤ 1048576) (w : World) (h : PoolAt w o n x) : Calls Try.prog 36 #[poolV o n c] w fun e w' => ∃ A cp ad, e = .returned (.tuple #[.slice A (btN n x) cp, .bool (rowB n x)]) ∧ Grid w' w.heap.size A (btN n x) cp ad (btLen n) (btF x) ∧ Below w.heap.size w w' := by
  have H := Lib.hid h; clear h
  cases g : rowB n x
  · have HV := Lib.hid (show btN n x = 0 by unfold btN; rw [g]; rfl)
    rw [HV.out]
    go_enter Try.func36, Try.ntmps36
    go_wp2_with fail
    go_at_call 64
    refine (l3Row_any o n c x hn _ (H.out.alloc _)).mono ?_
    rintro e w1 ⟨rfl, hb1⟩
    have HB1 := Lib.hid hb1; clear hb1
    have I1 := Lib.hid ((Grid.empty w w.heap.size (fun _ => (none, 0)) (fun _ => n) (btF x) (Nat.le_refl _)).below HB1.out)
    have HB1 := Lib.hid (((Below.refl w.heap.size w).alloc (Nat.le_refl _) (.cells #[] 60)).trans (HB1.out.mono (by simp)))
    rw [g]
    go_wp2
    go_ret2
    exact ⟨_, 0, _, rfl, I1.out, HB1.out⟩
  · obtain ⟨n1, n6⟩ := row_le g
    have HV := Lib.hid (show btN n x = n by unfold btN; rw [g]; rfl)
    rw [HV.out]
    go_enter Try.func36, Try.ntmps36
    go_wp2_with fail
    go_at_call 64
    refine (l3Row_any o n c x hn _ (H.out.alloc _)).mono ?_
    rintro e w1 ⟨rfl, hb1⟩
    have HB1 := Lib.hid hb1; clear hb1
    have I1 := Lib.hid ((Grid.empty w w.heap.size (fun _ => (none, 0)) (fun _ => n) (btF x) (Nat.le_refl _)).below HB1.out)
    have HB1 := Lib.hid (((Below.refl w.heap.size w).alloc (Nat.le_refl _) (.cells #[] 60)).trans (HB1.out.mono (by simp)))
    rw [g]
    clear g
    go_wp2
    go_loopw [4, 5] (fun v i wr => ∃ k : Nat, k ≤ n ∧ i = .int .i64 (k : Int) ∧ (∃ A cp ad, v = .slice A k cp ∧ Grid wr w.heap.size A k cp ad (fun _ => n) (btF x)) ∧ Below w.heap.size w wr) (fun v i _ => n - (intOf i).toNat)
    case atStart => exact ⟨0, by omega, rfl, ⟨_, 0, _, rfl, I1.out⟩, HB1.out⟩
    case round =>
      obtain ⟨i, hi, rfl, ⟨A, cp, ad, rfl, hG⟩, hb⟩ := hrel
      have HG := Lib.hid hG; have HB := Lib.hid hb
      clear hG hb HB1 I1
      by_cases hlt : i < n
      · have d0 : decide (i < n) = true := by simp; omega
        obtain ⟨wo, rfl⟩ : ∃ wo : World, wo = wr := ⟨_, rfl⟩
        go_wp2
        go_loopw [6, 7] (fun m v wr => ∃ k : Nat, k ≤ n ∧ v = .int .i64 (k : Int) ∧ (∃ A2 c2, m = .slice A2 k c2 ∧ Ints wr wo.heap.size A2 k c2 (btF x i)) ∧ Grid wr w.heap.size A i cp ad (fun _ => n) (btF x) ∧ Below w.heap.size w wr ∧ wo.heap.size ≤ wr.heap.size) (fun m v _ => n - (intOf v).toNat)
        case atStart => exact ⟨0, by omega, rfl, ⟨_, 0, rfl, Ints.empty _ _ _ (Nat.le_refl _)⟩, HG.out.below ((Below.refl _ _).alloc (Nat.le_refl _) _), HB.out.alloc HB.out.size _, by simp⟩
        case round =>
          obtain ⟨k, hk, rfl, ⟨A2, c2, rfl, hI⟩, hG, hb, hz⟩ := hrel
          have HI2 := Lib.hid hI
          have HG2 := Lib.hid hG
          have HB2 := Lib.hid hb
          have HZ := Lib.hid hz
          clear hI hG hb hz
          by_cases hlk : k < n
          · have d1 : decide (k < n) = true := by simp; omega
            obtain ⟨a1, rfl, _⟩ := dice6 (H.out.below HB2.out) hlk
            have PW := Lib.hid (H.out.below HB2.out)
            have b0 := cmpAll_bd (x i) (x k) 6 0
            have b2 := cmpAll_bd (x i) (x k) 6 2
            obtain ⟨z1, hz1⟩ : ∃ z, z = (if 1 < cmpAll (x i) (x k) 6 0 - cmpAll (x i) (x k) 6 2 then 1 else cmpAll (x i) (x k) 6 0 - cmpAll (x i) (x k) 6 2) := ⟨_, rfl⟩
            have HL1 := Lib.hid (fun w => least_any 1 (cmpAll (x i) (x k) 6 0 - cmpAll (x i) (x k) 6 2) w)
            have HM1 := Lib.hid (fun w => most_any (-1) z1 w)
            rw [← hz1] at HL1
            have e1 : (if z1 < -1 then -1 else z1) = beatI (x i) (x k) := by
              unfold beatI cmpI
              rw [hz1]
              split <;> split <;> (try split) <;> (try split) <;> omega
            rw [e1] at HM1
            clear hz1 e1
            go_wp2
            refine wp_region_steps (by kernel_rfl) (by kernel_rfl) (fun g : Nat => [(0, 27, poolV (some a1) n c), (1, 28, .int .i64 (i : Int)), (2, 29, .pointer (some (a1.add (i * 6)))), (3, 30, dieV (x i)), (4, 31, poolV (some a1) n c), (5, 32, .int .i64 (k : Int)), (6, 33, .pointer (some (a1.add (k * 6)))), (7, 34, dieV (x k)), (8, 35, .agg (row 3 (I (cmpAll (x i) (x k) 6)))), (9, 8, .pointer (some ⟨g, 0, none⟩))]) (WA _ 9 10 3 86 (I (cmpAll (x i) (x k) 6))) 0 (WA.init (by decide)) ?_ ?_
            · refine (And.intro (fun s g wv hW hs hp => ?_) (And.intro (fun s g wv hW hs hp => ?_) (And.intro (fun s g wv hW hs hp => ?_) (And.intro (fun s g wv hW hs hp => ?_) (And.intro (fun s g wv hW hs hp => ?_) (And.intro (fun s g wv hW hs hp => ?_) (And.intro (fun s g wv hW hs hp => ?_) (And.intro (fun s g wv hW hs hp => ?_) (And.intro (fun s g wv hW hs hp => ?_) (And.intro (fun s g wv hW hs hp => ?_) (And.intro (fun s g wv hW hs hp => ?_) True.intro)))))))))))
              · (try simp [waits, Region.binds, hs] at hp); (first | simp only [frm, List.foldl, Act.put, List.setIfInBounds_toArray, List.set_cons_succ, List.set_cons_zero, hs, hp, cond_true, cond_false] | simp only [frm, List.foldl, Act.put, List.setIfInBounds_toArray, List.set_cons_succ, List.set_cons_zero, hs, cond_true, cond_false]); have HW := Lib.hid hW; clear hW; go_wp2; refine ⟨g, by (first | simp [frm, Act.put, upd, hs, hp] | simp [frm, Act.put, upd, hs]), HW.out.keep (by decide) (by decide)⟩
              · (try simp [waits, Region.binds, hs] at hp); (first | simp only [frm, List.foldl, Act.put, List.setIfInBounds_toArray, List.set_cons_succ, List.set_cons_zero, hs, hp, cond_true, cond_false] | simp only [frm, List.foldl, Act.put, List.setIfInBounds_toArray, List.set_cons_succ, List.set_cons_zero, hs, cond_true, cond_false]); have HW := Lib.hid hW; clear hW; go_wp2; refine ⟨g, by (first | simp [frm, Act.put, upd, hs, hp] | simp [frm, Act.put, upd, hs]), HW.out.keep (by decide) (by decide)⟩
              · (try simp [waits, Region.binds, hs] at hp); (first | simp only [frm, List.foldl, Act.put, List.setIfInBounds_toArray, List.set_cons_succ, List.set_cons_zero, hs, hp, cond_true, cond_false] | simp only [frm, List.foldl, Act.put, List.setIfInBounds_toArray, List.set_cons_succ, List.set_cons_zero, hs, cond_true, cond_false]); have HW := Lib.hid hW; clear hW; go_wp2; refine ⟨g, by (first | simp [frm, Act.put, upd, hs, hp] | simp [frm, Act.put, upd, hs]), HW.out.keep (by decide) (by decide)⟩
              · (try simp [waits, Region.binds, hs] at hp); (first | simp only [frm, List.foldl, Act.put, List.setIfInBounds_toArray, List.set_cons_succ, List.set_cons_zero, hs, hp, cond_true, cond_false] | simp only [frm, List.foldl, Act.put, List.setIfInBounds_toArray, List.set_cons_succ, List.set_cons_zero, hs, cond_true, cond_false]); have HW := Lib.hid hW; clear hW; refine wpList_load_cells rfl 53 _ rfl rfl ((PW.out.below HW.out.1).cells hlt) Try.isAgg53 sz6 ?_; go_wp2; refine ⟨g, by (first | simp [frm, Act.put, upd, hs, hp] | simp [frm, Act.put, upd, hs]), HW.out.keep (by decide) (by decide)⟩
              · (try simp [waits, Region.binds, hs] at hp); (first | simp only [frm, List.foldl, Act.put, List.setIfInBounds_toArray, List.set_cons_succ, List.set_cons_zero, hs, hp, cond_true, cond_false] | simp only [frm, List.foldl, Act.put, List.setIfInBounds_toArray, List.set_cons_succ, List.set_cons_zero, hs, cond_true, cond_false]); have HW := Lib.hid hW; clear hW; go_wp2; refine ⟨g, by (first | simp [frm, Act.put, upd, hs, hp] | simp [frm, Act.put, upd, hs]), HW.out.keep (by decide) (by decide)⟩
              · (try simp [waits, Region.binds, hs] at hp); (first | simp only [frm, List.foldl, Act.put, List.setIfInBounds_toArray, List.set_cons_succ, List.set_cons_zero, hs, hp, cond_true, cond_false] | simp only [frm, List.foldl, Act.put, List.setIfInBounds_toArray, List.set_cons_succ, List.set_cons_zero, hs, cond_true, cond_false]); have HW := Lib.hid hW; clear hW; go_wp2; refine ⟨g, by (first | simp [frm, Act.put, upd, hs, hp] | simp [frm, Act.put, upd, hs]), HW.out.keep (by decide) (by decide)⟩
              · (try simp [waits, Region.binds, hs] at hp); (first | simp only [frm, List.foldl, Act.put, List.setIfInBounds_toArray, List.set_cons_succ, List.set_cons_zero, hs, hp, cond_true, cond_false] | simp only [frm, List.foldl, Act.put, List.setIfInBounds_toArray, List.set_cons_succ, List.set_cons_zero, hs, cond_true, cond_false]); have HW := Lib.hid hW; clear hW; go_wp2; refine ⟨g, by (first | simp [frm, Act.put, upd, hs, hp] | simp [frm, Act.put, upd, hs]), HW.out.keep (by decide) (by decide)⟩
              · (try simp [waits, Region.binds, hs] at hp); (first | simp only [frm, List.foldl, Act.put, List.setIfInBounds_toArray, List.set_cons_succ, List.set_cons_zero, hs, hp, cond_true, cond_false] | simp only [frm, List.foldl, Act.put, List.setIfInBounds_toArray, List.set_cons_succ, List.set_cons_zero, hs, cond_true, cond_false]); have HW := Lib.hid hW; clear hW; refine wpList_load_cells rfl 53 _ rfl rfl ((PW.out.below HW.out.1).cells hlk) Try.isAgg53 sz6 ?_; go_wp2; refine ⟨g, by (first | simp [frm, Act.put, upd, hs, hp] | simp [frm, Act.put, upd, hs]), HW.out.keep (by decide) (by decide)⟩
              · (try simp [waits, Region.binds, hs] at hp); (first | simp only [frm, List.foldl, Act.put, List.setIfInBounds_toArray, List.set_cons_succ, List.set_cons_zero, hs, hp, cond_true, cond_false] | simp only [frm, List.foldl, Act.put, List.setIfInBounds_toArray, List.set_cons_succ, List.set_cons_zero, hs, cond_true, cond_false]); have HW := Lib.hid hW; clear hW; go_wp2_with fail; go_at_call 80; refine (l3Compare_any _ _ _).mono ?_; rintro e' w2 ⟨rfl, hb2⟩; have HB2 := Lib.hid hb2; clear hb2; go_wp2; refine ⟨g, by (first | simp [frm, Act.put, upd, hs, hp] | simp [frm, Act.put, upd, hs]), HW.out.call HB2.out (by decide) (by decide)⟩
              · (try simp [waits, Region.binds, hs] at hp); (first | simp only [frm, List.foldl, Act.put, List.setIfInBounds_toArray, List.set_cons_succ, List.set_cons_zero, hs, hp, cond_true, cond_false] | simp only [frm, List.foldl, Act.put, List.setIfInBounds_toArray, List.set_cons_succ, List.set_cons_zero, hs, cond_true, cond_false]); have HW := Lib.hid hW; clear hW; refine wpList_alloc_blk rfl 86 rfl zero3 ?_; go_wp2; refine ⟨wv.heap.size, by (first | simp [frm, Act.put, upd, hs, hp] | simp [frm, Act.put, upd, hs]), HW.out.alloc hs (by decide) _⟩
              · (try simp [waits, Region.binds, hs] at hp); (first | simp only [frm, List.foldl, Act.put, List.setIfInBounds_toArray, List.set_cons_succ, List.set_cons_zero, hs, hp, cond_true, cond_false] | simp only [frm, List.foldl, Act.put, List.setIfInBounds_toArray, List.set_cons_succ, List.set_cons_zero, hs, cond_true, cond_false]); have HW := Lib.hid hW; clear hW; obtain ⟨q1, f0, q2⟩ := HW.out.2.1 (by simp [hp]); have Q2 := Lib.hid q2; clear q1 q2; refine wpList_store_blk rfl 86 _ _ rfl Q2.out rfl rfl sz3 (fun _ _ => rfl) ?_; go_wp2; refine ⟨g, by (first | simp [frm, Act.put, upd, hs, hp] | simp [frm, Act.put, upd, hs]), HW.out.store (by simp [hp]) (by decide)⟩
            · intro s g wg hW hall
              have hs := fun i (hi : i < 11) => hall i (by simpa using hi)
              obtain ⟨q0, q1, q2⟩ := hW
              have HGG := Lib.hid q0; have HL := Lib.hid (q1 (hs 9 (by omega))).1; have HV3 := Lib.hid (q2 (hs 10 (by omega))).2
              simp only [frm, List.foldl, Act.put, List.setIfInBounds_toArray, List.set_cons_succ, List.set_cons_zero, hs 0 (by omega), hs 1 (by omega), hs 2 (by omega), hs 3 (by omega), hs 4 (by omega), hs 5 (by omega), hs 6 (by omega), hs 7 (by omega), hs 8 (by omega), hs 9 (by omega), cond_true]
              clear q0 q1 q2 hs hall
              have c0 : wg.cell? ⟨g, 0, none⟩ = some (.int .i64 (cmpAll (x i) (x k) 6 0)) := HV3.out.cell (i := 0) (by omega)
              have c2 : wg.cell? ⟨g, 2, none⟩ = some (.int .i64 (cmpAll (x i) (x k) 6 2)) := HV3.out.cell (i := 2) (by omega)
              go_wp2_with fail
              go_at_call 82
              refine (HL1.out _).mono ?_
              rintro e w' ⟨rfl, rfl⟩
              go_wp2_with fail
              go_at_call 81
              refine (HM1.out _).mono ?_
              rintro e w' ⟨rfl, rfl⟩
              have HI3 := Lib.hid (HI2.out.below HGG.out.below)
              have HG3 := Lib.hid (HG2.out.below HGG.out.below)
              have HB3 := Lib.hid (HB2.out.trans (HGG.out.below.mono HB2.out.size))
              have HZ3 := Lib.hid (show wo.heap.size ≤ wg.heap.size by have := HGG.out.below.size; have := HZ.out; omega)
              clear c0 c2
              have Z1 := Lib.hid (show (wg.alloc (.cells #[.int .i64 (beatI (x i) (x k))] 3)).cell? ⟨wg.heap.size, 0, none⟩ = some (.int .i64 (beatI (x i) (x k))) by simp)
              have Z2 := Lib.hid (HI3.out.below ((Below.refl wg.heap.size wg).alloc (Nat.le_refl _) (.cells #[.int .i64 (beatI (x i) (x k))] 3)))
              have Z3 := Lib.hid (show wo.heap.size ≤ (wg.alloc (.cells #[.int .i64 (beatI (x i) (x k))] 3)).heap.size by have := HZ3.out; simp; omega)
              have Z4 := Lib.hid (show k ≤ 1000000 by omega)
              go_wp2_with (first | (((with_reducible apply wpList_append_int); (case hgd => rfl); (case ho => rfl); (case hs => rfl); (case hx => rfl); (case hS => exact Try.underlying60); (case hown => exact Z2.out); (case hz => exact Z1.out); (case hf => exact rfl); (case hm => exact Z4.out); (case hB => exact Z3.out); intro A3 c3 w3 hI3 hg3)) | fail)
              go_roundw
              case rel => exact ⟨k + 1, by omega, by go_num, ⟨A3, c3, rfl, hI3⟩, HG.out.line HG3.out HI3.out hg3, Ints.line_below HB3.out HB.out.size HI3.out hg3, by have := HZ3.out; have := Ints.append_size hg3; omega⟩
              case measure => simp [intOf]; omega
          · obtain rfl : k = n := by omega
            have d1 : decide (k < k) = false := by simp
            have Z1 := Lib.hid (show (wr.alloc (.cells #[.slice A2 k c2] 60)).cell? ⟨wr.heap.size, 0, none⟩ = some (.slice A2 k c2) by simp)
            have Z2 := Lib.hid (HG2.out.below ((Below.refl wr.heap.size wr).alloc (Nat.le_refl _) (.cells #[.slice A2 k c2] 60)))
            have Z5 := Lib.hid ((HI2.out.base (show w.heap.size ≤ wo.heap.size by have := HB.out.size; omega)).below ((Below.refl wr.heap.size wr).alloc (Nat.le_refl _) (.cells #[.slice A2 k c2] 60)))
            have Z6 := Lib.hid (show ∀ j, j < i → (rowSl ad (fun _ => k) j).ownBlock = none ∨ (rowSl ad (fun _ => k) j).ownBlock ≠ Value.ownBlock (.slice A2 k c2) from fun j hj => own_ne (HG.out.rows j hj) HI2.out (Nat.le_refl _))
            have Z3 := Lib.hid (show w.heap.size ≤ (wr.alloc (.cells #[.slice A2 k c2] 60)).heap.size by have := HB2.out.size; simp; omega)
            have Z4 := Lib.hid (show i ≤ 1000000 by omega)
            go_wp2_with (first | (((with_reducible apply wpList_append_grid); (case hgd => rfl); (case ho => rfl); (case hs => rfl); (case hx => rfl); (case hS => exact Try.underlying47); (case hgrid => exact Z2.out); (case hz => exact Z1.out); (case hn => exact rfl); (case hrow => exact Z5.out); (case hsep => exact Z6.out); (case hm => exact Z4.out); (case hB => exact Z3.out); intro A3 c3 w3 ad3 hI3 hg3)) | fail)
            go_roundw
            case rel => exact ⟨i + 1, by omega, by go_num, ⟨A3, c3, ad3, rfl, hI3⟩, Grid.append_below HB2.out HG2.out hg3⟩
            case measure => simp [intOf]; omega
      · obtain rfl : i = n := by omega
        have d0 : decide (i < i) = false := by simp
        go_wp2
        go_ret2
        exact ⟨A, cp, ad, rfl, HG.out, HB.out⟩
end Go.Proofs.Ytbfhfadfjgfmaaa
