/- Slices of arrays of ints that a call has made: how a law compares them, marks them and asks for the marks. -/
import Derived.Test.YtbfhfadfjgfmaaaGrow
set_option linter.unusedVariables false
set_option linter.unusedSimpArgs false
set_option linter.unusedSectionVars false
namespace Go.Proofs.Ytbfhfadfjgfmaaa
open Go.RowKit
/-- A slice value that owns m arrays of s ints, flat. -/
def Arrs (w : World) (T : TypeId) (s B : Nat) (o : Option Addr) (m c : Nat) (f : Nat → Int) : Prop := w.ownsRow B T s (.slice o m c) m (intL f (m * s))
namespace Arrs
variable {w w' : World} {T : TypeId} {s B m c : Nat} {o : Option Addr} {f : Nat → Int}
theorem below (h : Arrs w T s B o m c f) (hb : Below w.heap.size w w') : Arrs w' T s B o m c f := own_below h hb
theorem grown {row : Option Nat} (h : Arrs w T s B o m c f) (hg : w.grownBy w' row) (hne : Value.ownBlock (.slice o m c) = Option.none ∨ Value.ownBlock (.slice o m c) ≠ row) : Arrs w' T s B o m c f := World.ownsRow.kept h hg hne
theorem apart {w2 : World} (h : Arrs w2 T s B o m c f) {b : Nat} (hb : w2.heap.size ≤ b) : Value.ownBlock (.slice o m c) = Option.none ∨ Value.ownBlock (.slice o m c) ≠ some b := by
  cases q : Value.ownBlock (.slice o m c) with
  | none => exact .inl rfl
  | some k => exact .inr (fun e => by injection e with e; have := (World.ownsRow.lt h k q).2; omega)
theorem behind {w2 : World} (h : Arrs w2 T s B o m c f) {b : Nat} (hb : b < B) : Value.ownBlock (.slice o m c) = Option.none ∨ Value.ownBlock (.slice o m c) ≠ some b := by
  cases q : Value.ownBlock (.slice o m c) with
  | none => exact .inl rfl
  | some k => exact .inr (fun e => by injection e with e; have := (World.ownsRow.lt h k q).1; omega)
theorem sep {w1 w2 : World} {T2 : TypeId} {s2 B2 m2 c2 : Nat} {o2 : Option Addr} {f2 : Nat → Int} (h : Arrs w1 T s B o m c f) (h2 : Arrs w2 T2 s2 B2 o2 m2 c2 f2) (hB : w1.heap.size ≤ B2) : Value.ownBlock (.slice o m c) = Option.none ∨ Value.ownBlock (.slice o m c) ≠ Value.ownBlock (.slice o2 m2 c2) := own_ne h h2 hB
theorem nil (w : World) (T : TypeId) (s B : Nat) (f : Nat → Int) : Arrs w T s B Option.none 0 0 f := ⟨by simp [intL], .inl ⟨rfl, rfl⟩⟩
theorem ofBlk {g : Nat} {F : Nat → Value} (hB : B ≤ g) (hnc : m ≤ c) (hcm : c ≤ maxLen) (hb : Blk w g (c * s) T F) (hx : ∀ i, i < m * s → F i = .int .i64 (f i)) : Arrs w T s B (some ⟨g, 0, Option.none⟩) m c f :=
  own_of hB hnc hcm hb (by rw [intL_len]) (fun i hi => by rw [intL_get f hi, hx i hi])
theorem empty (w : World) (T : TypeId) (s B : Nat) (f : Nat → Int) (hB : B ≤ w.heap.size) : Arrs (w.alloc (.cells #[] T)) T s B (some ⟨w.heap.size, 0, Option.none⟩) 0 0 f :=
  ofBlk hB (Nat.le_refl _) (by omega) (show Blk _ _ (0 * s) T (I f) by rw [Nat.zero_mul]; exact Blk.new w 0 T (I f)) (fun i hi => by omega)
theorem base {B' : Nat} (h : Arrs w T s B o m c f) (hB : B' ≤ B) : Arrs w T s B' o m c f := by
  refine ⟨h.1, ?_⟩
  rcases h.2 with h0 | ⟨g, cap, cur, h1, h2, h3⟩
  · exact .inl h0
  · exact .inr ⟨g, cap, cur, h1, by omega, h3⟩
/-- One array of it. -/
theorem cells (h : Arrs w T s B o m c f) {k : Nat} (hk : k < m) : ∃ g, o = some ⟨g, 0, Option.none⟩ ∧ B ≤ g ∧ g < w.heap.size ∧ ∀ j, j < s → w.cell? ((⟨g, k * s, Option.none⟩ : Addr).add j) = some (I (fun j => f (k * s + j)) j) := by
  obtain ⟨g, F, h1, _, h2, h3, _, h4, h5, h6⟩ := own_form h (by omega)
  refine ⟨g, h1, h2, h6, fun j hj => ?_⟩
  have hp : k * s + j < m * s := by
    have : (k + 1) * s ≤ m * s := Nat.mul_le_mul_right s (by omega)
    rw [Nat.add_mul] at this
    omega
  rw [addr_add, h4.cell (Nat.lt_of_lt_of_le hp (Nat.mul_le_mul_right s h3))]
  have := h5 _ hp
  rw [intL_get f hp] at this
  exact this.symm
theorem cell (h : Arrs w T s B o m c f) {k j : Nat} (hk : k < m) (hj : j < s) : ∃ g, o = some ⟨g, 0, Option.none⟩ ∧ B ≤ g ∧ g < w.heap.size ∧ w.cell? ⟨g, k * s + j, Option.none⟩ = some (.int .i64 (f (k * s + j))) := by
  obtain ⟨g, h1, h2, h3, h4⟩ := h.cells hk
  have := h4 j hj
  rw [addr_add] at this
  exact ⟨g, h1, h2, h3, this⟩
theorem congr {f' : Nat → Int} (h : Arrs w T s B o m c f) (e : ∀ i, i < m * s → f i = f' i) : Arrs w T s B o m c f' := by
  have : intL f (m * s) = intL f' (m * s) := by
    unfold intL
    apply List.map_congr_left
    intro i hi
    simp only [I, e i (List.mem_range.1 hi)]
  unfold Arrs at *
  rw [← this]
  exact h
end Arrs
/-- Rows of different element types never share a block. -/
theorem own_blk_ne {w : World} {B s n b N : Nat} {e T : TypeId} {v : Value} {xs : List Value} {f : Nat → Value} (h : w.ownsRow B e s v n xs) (hb : Blk w b N T f) (hne : e ≠ T) : some b ≠ v.ownBlock := by
  rcases h.2 with ⟨rfl, _⟩ | ⟨g, cap, cur, rfl, _, hg, _⟩
  · simp [Value.ownBlock]
  · intro q
    have : b = g := by simpa [Value.ownBlock] using q
    subst this
    unfold Blk at hb
    rw [hg] at hb
    injection hb with hb
    injection hb with _ ht
    exact hne ht
/-- Behind an append to a slice of the call's own. -/
theorem own_append_below {w0 wr w2 : World} {T : TypeId} {s B n : Nat} {v : Value} {xs : List Value} {q : Obj} (hb : Below w0.heap.size w0 wr) (hI : wr.ownsRow B T s v n xs) (hB : w0.heap.size ≤ B) (hg : (wr.alloc q).grownBy w2 v.ownBlock) : Below w0.heap.size w0 w2 :=
  below_grown (hb.alloc hb.size q) hg (fun g e => by have := (World.ownsRow.lt hI g e).1; omega) (by have := hb.size; simp; omega)
theorem infoA2 : (Try.prog.info? 43).map (fun i => (i.zero, i.size, i.bytes)) = some (some (.agg (row 2 (I fun _ => 0))), 2, 16) := by kernel_rfl
theorem wpList_append_arr2 {ops : Array Oper} {rest : List Oper} {o : Oper} {a : Act} {w : World} {Q : Exit → Act → World → Prop} (hgd : o.guard = none) {x y : Operand} {S : TypeId} (hS : Try.prog.underlying S = some (.slice 43))
    (ho : o.op = .call { callee := .builtin .append, args := #[x, y], argTypes := #[S, S] }) {B m c g : Nat} {A : Option Addr} {f z : Nat → Int} (hs : a.eval x = .slice A m c) (hx : a.eval y = .slice (some ⟨g, 0, none⟩) 1 1)
    (hz : ∀ j, j < 2 → w.cell? ⟨g, j, none⟩ = some (.int .i64 (z j))) (hf : ∀ j, j < 2 → f (m * 2 + j) = z j) (hown : Arrs w 43 2 B A m c f) (hm : m ≤ 1000000) (hB : B ≤ w.heap.size)
    (h : ∀ A' c' w', Arrs w' 43 2 B A' (m + 1) c' f → w.grownBy w' (Value.ownBlock (.slice A m c)) → wpList Try.prog ops Q rest (a.put o.dst (.slice A' (m + 1) c')) w') : wpList Try.prog ops Q (o :: rest) a w := by
  obtain ⟨i, hi, h0, h1, h2⟩ := info_get infoA2
  refine wpList_append_own w hgd x y S ho B 43 i (.agg (row 2 (I fun _ => 0))) 2 16 hS hi h0 h1 h2 (row_size _ _) (by decide) _ m (intL f (m * 2)) hs hown ⟨g, 0, none⟩ 1 1 (intL z 2) hx (intL_len _ _) ?_ ?_ ?_ ?_ hB ?_
  · intro j u hu
    have hj : j < 2 := by
      by_cases q : j < 2
      · exact q
      · rw [List.getElem?_eq_none (by rw [intL_len]; omega)] at hu; cases hu
    rw [intL_get z hj] at hu
    rw [addr_add, Nat.zero_add, hz j hj]
    exact hu
  · intro u hu
    simp only [intL, List.mem_map] at hu
    obtain ⟨j, _, rfl⟩ := hu
    rfl
  · unfold maxLen; omega
  · omega
  · intro v' w' hw' hg _
    have e : intL f (m * 2) ++ intL z 2 = intL f ((m + 1) * 2) := by
      apply List.ext_getElem?
      intro p
      by_cases q1 : p < m * 2
      · rw [List.getElem?_append_left (by rw [intL_len]; exact q1), intL_get f q1, intL_get f (by omega)]
      · rw [List.getElem?_append_right (by rw [intL_len]; omega), intL_len]
        by_cases q2 : p < (m + 1) * 2
        · rw [intL_get z (by omega), intL_get f q2, ← hf (p - m * 2) (by omega), show m * 2 + (p - m * 2) = p by omega]
        · rw [List.getElem?_eq_none (by rw [intL_len]; omega), List.getElem?_eq_none (by rw [intL_len]; omega)]
    rw [e] at hw'
    rcases hw'.2 with ⟨_, h00⟩ | ⟨g', cap, cur, rfl, _⟩
    · omega
    · exact h _ _ w' hw' hg
theorem infoA4 : (Try.prog.info? 29).map (fun i => (i.zero, i.size, i.bytes)) = some (some (.agg (row 4 (I fun _ => 0))), 4, 32) := by kernel_rfl
theorem wpList_append_arr4 {ops : Array Oper} {rest : List Oper} {o : Oper} {a : Act} {w : World} {Q : Exit → Act → World → Prop} (hgd : o.guard = none) {x y : Operand} {S : TypeId} (hS : Try.prog.underlying S = some (.slice 29))
    (ho : o.op = .call { callee := .builtin .append, args := #[x, y], argTypes := #[S, S] }) {B m c g : Nat} {A : Option Addr} {f z : Nat → Int} (hs : a.eval x = .slice A m c) (hx : a.eval y = .slice (some ⟨g, 0, none⟩) 1 1)
    (hz : ∀ j, j < 4 → w.cell? ⟨g, j, none⟩ = some (.int .i64 (z j))) (hf : ∀ j, j < 4 → f (m * 4 + j) = z j) (hown : Arrs w 29 4 B A m c f) (hm : m ≤ 1000000) (hB : B ≤ w.heap.size)
    (h : ∀ A' c' w', Arrs w' 29 4 B A' (m + 1) c' f → w.grownBy w' (Value.ownBlock (.slice A m c)) → wpList Try.prog ops Q rest (a.put o.dst (.slice A' (m + 1) c')) w') : wpList Try.prog ops Q (o :: rest) a w := by
  obtain ⟨i, hi, h0, h1, h2⟩ := info_get infoA4
  refine wpList_append_own w hgd x y S ho B 29 i (.agg (row 4 (I fun _ => 0))) 4 32 hS hi h0 h1 h2 (row_size _ _) (by decide) _ m (intL f (m * 4)) hs hown ⟨g, 0, none⟩ 1 1 (intL z 4) hx (intL_len _ _) ?_ ?_ ?_ ?_ hB ?_
  · intro j u hu
    have hj : j < 4 := by
      by_cases q : j < 4
      · exact q
      · rw [List.getElem?_eq_none (by rw [intL_len]; omega)] at hu; cases hu
    rw [intL_get z hj] at hu
    rw [addr_add, Nat.zero_add, hz j hj]
    exact hu
  · intro u hu
    simp only [intL, List.mem_map] at hu
    obtain ⟨j, _, rfl⟩ := hu
    rfl
  · unfold maxLen; omega
  · omega
  · intro v' w' hw' hg _
    have e : intL f (m * 4) ++ intL z 4 = intL f ((m + 1) * 4) := by
      apply List.ext_getElem?
      intro p
      by_cases q1 : p < m * 4
      · rw [List.getElem?_append_left (by rw [intL_len]; exact q1), intL_get f q1, intL_get f (by omega)]
      · rw [List.getElem?_append_right (by rw [intL_len]; omega), intL_len]
        by_cases q2 : p < (m + 1) * 4
        · rw [intL_get z (by omega), intL_get f q2, ← hf (p - m * 4) (by omega), show m * 4 + (p - m * 4) = p by omega]
        · rw [List.getElem?_eq_none (by rw [intL_len]; omega), List.getElem?_eq_none (by rw [intL_len]; omega)]
    rw [e] at hw'
    rcases hw'.2 with ⟨_, h00⟩ | ⟨g', cap, cur, rfl, _⟩
    · omega
    · exact h _ _ w' hw' hg
theorem eqArrs4_any (o1 o2 : Option Addr) (m c1 c2 B1 B2 : Nat) (f : Nat → Int) (hm : m ≤ 1000000) (w : World) (h1 : Arrs w 29 4 B1 o1 m c1 f) (h2 : Arrs w 29 4 B2 o2 m c2 f) : Calls Try.prog 25 #[.slice o1 m c1, .slice o2 m c2] w fun e w' => e = .returned (.bool true) ∧ Below w.heap.size w w' := by
  have H1 := Lib.hid h1; have H2 := Lib.hid h2; clear h1 h2
  have d0 : ((m : Int) == (m : Int)) = true := by simp
  go_enter Try.func25, Try.ntmps25
  go_wp2
  go_loopw [5] (fun i wr => ∃ k : Nat, k ≤ m ∧ i = .int .i64 (k : Int) ∧ Below w.heap.size w wr) (fun i _ => m - (intOf i).toNat)
  case atStart => exact ⟨0, by omega, rfl, Below.refl _ _⟩
  case round =>
    obtain ⟨k, hk, rfl, hb⟩ := hrel
    by_cases hlt : k < m
    · obtain ⟨g1, rfl, _, hg1, c1⟩ := (H1.out.below hb).cells hlt
      obtain ⟨g2, rfl, _, hg2, c2⟩ := (H2.out.below hb).cells hlt
      have d1 : decide (k < m) = true := by simp; omega
      have HB := Lib.hid hb; have C1 := Lib.hid c1; have C2 := Lib.hid c2; have G1 := Lib.hid hg1; have G2 := Lib.hid hg2
      clear hb c1 c2 hg1 hg2
      go_wp2
      refine wp_region_grown_lit (by kernel_rfl) (by kernel_rfl) ?_
      repeat (first | go_big_quiet_skip | (go_big_quiet_want; (first | (refine grown_load_cells 29 _ rfl rfl (G1.out) (C1.out) Try.isAgg29 sz4 ?_; simp only [Act.put, List.setIfInBounds_toArray, List.set_cons_succ, List.set_cons_zero]; go_big_quiet_on) | (refine grown_load_cells 29 _ rfl rfl (G2.out) (C2.out) Try.isAgg29 sz4 ?_; simp only [Act.put, List.setIfInBounds_toArray, List.set_cons_succ, List.set_cons_zero]; go_big_quiet_on) | (go_big_quiet_op; (first | go_big_quiet_on | (refine ⟨_, fun _ _ => rfl, ?_⟩; go_big_quiet_on) | (apply Exists.intro; refine ⟨fun _ hC => ?_, ?_⟩; (first | (go_at_call 19; exact grown_of hC (eqA4_any _ _))); go_big_quiet_on))))))
      refine wpQuiet_nil ?_
      intro wg hg
      have HB1 := Lib.hid (HB.out.trans (hg.below.mono HB.out.size))
      clear hg
      go_wp2
      go_roundw
      case rel => exact ⟨k + 1, by omega, by go_num, HB1.out⟩
      case measure => simp [intOf]; omega
    · have d1 : decide (k < m) = false := by simp; omega
      go_wp2
      go_ret
      exact ⟨rfl, hb⟩
theorem markArrs4_any (o : Option Addr) (m c B : Nat) (f : Nat → Int) (hm : m ≤ 1000000) (w : World) (h : Arrs w 29 4 B o m c f) : Calls Try.prog 26 #[.slice o m c, .int .i64 1] w fun e w' => e = .returned (.int .i64 (((m * 4 : Nat) : Int) + 1)) ∧ Arrs w' 29 4 B o m c (fun i => (i : Int) + 1) ∧ w.grownBy w' (Value.ownBlock (.slice o m c)) := by
  by_cases h0 : 0 < m
  · obtain ⟨g, F, rfl, _, hB, hnc, hcm, hb, hx, hg⟩ := own_form h h0
    have HB0 := Lib.hid hb
    have HC := Lib.hid (And.intro hB (And.intro hnc hcm))
    have h1 : m ≤ c := hnc
    clear hx h hb hB hnc hcm
    go_enter Try.func26, Try.ntmps26
    go_wp2
    go_loopw [1, 5] (fun t i wr => ∃ k : Nat, k ≤ m ∧ i = .int .i64 (k : Int) ∧ t = .int .i64 (((k * 4 : Nat) : Int) + 1) ∧ Blk wr g (c * 4) 29 (fun i => if i < k * 4 then .int .i64 ((i : Int) + 1) else F i) ∧ w.grownBy wr (some g)) (fun t i _ => m - (intOf i).toNat)
    case atStart => exact ⟨0, by omega, rfl, rfl, HB0.out.ext (fun i _ => by simp), grown_refl _ _⟩
    case round =>
      obtain ⟨k, hk, rfl, rfl, hR, hgr⟩ := hrel
      have R1 := Lib.hid hR; have G1 := Lib.hid hgr
      clear hR hgr
      by_cases hlt : k < m
      · have d1 : decide (k < m) = true := by simp; omega
        obtain ⟨wo, rfl⟩ : ∃ wo : World, wo = wr := ⟨_, rfl⟩
        go_wp2
        go_loopw [1, 6] (fun t i wr => ∃ j : Nat, j ≤ 4 ∧ i = .int .i64 (j : Int) ∧ t = .int .i64 (((k * 4 + j : Nat) : Int) + 1) ∧ Blk wr g (c * 4) 29 (fun i => if i < k * 4 + j then .int .i64 ((i : Int) + 1) else F i) ∧ w.grownBy wr (some g)) (fun t i _ => 4 - (intOf i).toNat)
        case atStart => exact ⟨0, by omega, rfl, rfl, R1.out, G1.out⟩
        case round =>
          obtain ⟨j, hj, rfl, rfl, hR, hgr⟩ := hrel
          clear R1 G1
          by_cases hlj : j < 4
          · have c0 : wr.cell? ⟨g, k * 4 + j, none⟩ = some (if k * 4 + j < k * 4 + j then .int .i64 (((k * 4 + j : Nat) : Int) + 1) else F (k * 4 + j)) := hR.cell (by omega)
            have f0 : wr.frozen? ⟨g, k * 4 + j, none⟩ = false := hR.free _
            have d2 : decide ((j : Int) < 4) = true := by simp; omega
            have R1 := Lib.hid hR; have G1 := Lib.hid hgr
            clear hR hgr
            go_wp2
            go_roundw
            case rel =>
              refine ⟨j + 1, by omega, by go_num, by go_num, (R1.out.set (by omega) _).ext (fun i hi => ?_), grown_set G1.out _ _⟩
              simp only [upd]
              by_cases e : i = k * 4 + j
              · subst e; rw [if_pos rfl, if_pos (by omega)]; try simp
              · rw [if_neg e]
                by_cases e2 : i < k * 4 + j
                · rw [if_pos e2, if_pos (by omega)]
                · rw [if_neg e2, if_neg (by omega)]
            case measure => simp [intOf]; omega
          · obtain rfl : j = 4 := by omega
            go_wp2
            go_roundw
            case rel => exact ⟨k + 1, by omega, by go_num, by go_num, hR.ext (fun i hi => by rw [show k * 4 + 4 = (k + 1) * 4 by omega]), hgr⟩
            case measure => simp [intOf]; omega
      · have d1 : decide (k < m) = false := by simp; omega
        have e0 : k = m := by omega
        go_wp2
        go_ret
        exact ⟨by rw [e0]; rfl, Arrs.ofBlk HC.out.1 HC.out.2.1 HC.out.2.2 R1.out (fun i hi => by rw [if_pos (by rw [e0]; exact hi)]), G1.out⟩
  · obtain rfl : m = 0 := by omega
    have H := Lib.hid h; clear h
    go_enter Try.func26, Try.ntmps26
    go_wp2
    go_loopw [1, 5] (fun t i wr => i = .int .i64 0 ∧ t = .int .i64 1 ∧ w = wr) (fun t i _ => 0)
    case atStart => exact ⟨rfl, rfl, rfl⟩
    case round =>
      obtain ⟨rfl, rfl, rfl⟩ := hrel
      go_wp2
      go_ret
      exact ⟨rfl, H.out, grown_refl _ _⟩
theorem heldArrs4_any (o : Option Addr) (m c B : Nat) (hm : m ≤ 1000000) (w : World) (h : Arrs w 29 4 B o m c (fun i => (i : Int) + 1)) : Calls Try.prog 27 #[.slice o m c, .int .i64 1] w fun e w' => e = .returned (.int .i64 (((m * 4 : Nat) : Int) + 1)) ∧ w = w' := by
  have H := Lib.hid h; clear h
  go_enter Try.func27, Try.ntmps27
  go_wp2
  go_loopw [1, 5] (fun t i wr => ∃ k : Nat, k ≤ m ∧ i = .int .i64 (k : Int) ∧ t = .int .i64 (((k * 4 : Nat) : Int) + 1) ∧ w = wr) (fun t i _ => m - (intOf i).toNat)
  case atStart => exact ⟨0, by omega, rfl, rfl, rfl⟩
  case round =>
    obtain ⟨k, hk, rfl, rfl, rfl⟩ := hrel
    by_cases hlt : k < m
    · have d1 : decide (k < m) = true := by simp; omega
      go_wp2
      go_loopw [1, 6] (fun t i wr => ∃ j : Nat, j ≤ 4 ∧ i = .int .i64 (j : Int) ∧ t = .int .i64 (((k * 4 + j : Nat) : Int) + 1) ∧ w = wr) (fun t i _ => 4 - (intOf i).toNat)
      case atStart => exact ⟨0, by omega, rfl, rfl, rfl⟩
      case round =>
        obtain ⟨j, hj, rfl, rfl, rfl⟩ := hrel
        by_cases hlj : j < 4
        · obtain ⟨g, rfl, _, _, c0⟩ := H.out.cell hlt hlj
          have d2 : decide ((j : Int) < 4) = true := by simp; omega
          have d3 : (((k * 4 + j : Nat) : Int) + 1 != ((k * 4 + j : Nat) : Int) + 1) = false := by simp
          go_wp2
          go_roundw
          case rel => exact ⟨j + 1, by omega, by go_num, by go_num, trivial⟩
          case measure => simp [intOf]; omega
        · obtain rfl : j = 4 := by omega
          go_wp2
          go_roundw
          case rel => exact ⟨k + 1, by omega, by go_num, by go_num, trivial⟩
          case measure => simp [intOf]; omega
    · have d1 : decide (k < m) = false := by simp; omega
      have e0 : k = m := by omega
      go_wp2
      go_ret
      exact ⟨by rw [e0]; rfl, rfl⟩
theorem infoA6 : (Try.prog.info? 53).map (fun i => (i.zero, i.size, i.bytes)) = some (some (.agg (row 6 (I fun _ => 0))), 6, 48) := by kernel_rfl
theorem wpList_append_arr6 {ops : Array Oper} {rest : List Oper} {o : Oper} {a : Act} {w : World} {Q : Exit → Act → World → Prop} (hgd : o.guard = none) {x y : Operand} {S : TypeId} (hS : Try.prog.underlying S = some (.slice 53))
    (ho : o.op = .call { callee := .builtin .append, args := #[x, y], argTypes := #[S, S] }) {B m c g : Nat} {A : Option Addr} {f z : Nat → Int} (hs : a.eval x = .slice A m c) (hx : a.eval y = .slice (some ⟨g, 0, none⟩) 1 1)
    (hz : ∀ j, j < 6 → w.cell? ⟨g, j, none⟩ = some (.int .i64 (z j))) (hf : ∀ j, j < 6 → f (m * 6 + j) = z j) (hown : Arrs w 53 6 B A m c f) (hm : m ≤ 1000000) (hB : B ≤ w.heap.size)
    (h : ∀ A' c' w', Arrs w' 53 6 B A' (m + 1) c' f → w.grownBy w' (Value.ownBlock (.slice A m c)) → wpList Try.prog ops Q rest (a.put o.dst (.slice A' (m + 1) c')) w') : wpList Try.prog ops Q (o :: rest) a w := by
  obtain ⟨i, hi, h0, h1, h2⟩ := info_get infoA6
  refine wpList_append_own w hgd x y S ho B 53 i (.agg (row 6 (I fun _ => 0))) 6 48 hS hi h0 h1 h2 (row_size _ _) (by decide) _ m (intL f (m * 6)) hs hown ⟨g, 0, none⟩ 1 1 (intL z 6) hx (intL_len _ _) ?_ ?_ ?_ ?_ hB ?_
  · intro j u hu
    have hj : j < 6 := by
      by_cases q : j < 6
      · exact q
      · rw [List.getElem?_eq_none (by rw [intL_len]; omega)] at hu; cases hu
    rw [intL_get z hj] at hu
    rw [addr_add, Nat.zero_add, hz j hj]
    exact hu
  · intro u hu
    simp only [intL, List.mem_map] at hu
    obtain ⟨j, _, rfl⟩ := hu
    rfl
  · unfold maxLen; omega
  · omega
  · intro v' w' hw' hg _
    have e : intL f (m * 6) ++ intL z 6 = intL f ((m + 1) * 6) := by
      apply List.ext_getElem?
      intro p
      by_cases q1 : p < m * 6
      · rw [List.getElem?_append_left (by rw [intL_len]; exact q1), intL_get f q1, intL_get f (by omega)]
      · rw [List.getElem?_append_right (by rw [intL_len]; omega), intL_len]
        by_cases q2 : p < (m + 1) * 6
        · rw [intL_get z (by omega), intL_get f q2, ← hf (p - m * 6) (by omega), show m * 6 + (p - m * 6) = p by omega]
        · rw [List.getElem?_eq_none (by rw [intL_len]; omega), List.getElem?_eq_none (by rw [intL_len]; omega)]
    rw [e] at hw'
    rcases hw'.2 with ⟨_, h00⟩ | ⟨g', cap, cur, rfl, _⟩
    · omega
    · exact h _ _ w' hw' hg
theorem eqArrs6_any (o1 o2 : Option Addr) (m c1 c2 B1 B2 : Nat) (f : Nat → Int) (hm : m ≤ 1000000) (w : World) (h1 : Arrs w 53 6 B1 o1 m c1 f) (h2 : Arrs w 53 6 B2 o2 m c2 f) : Calls Try.prog 14 #[.slice o1 m c1, .slice o2 m c2] w fun e w' => e = .returned (.bool true) ∧ Below w.heap.size w w' := by
  have H1 := Lib.hid h1; have H2 := Lib.hid h2; clear h1 h2
  have d0 : ((m : Int) == (m : Int)) = true := by simp
  go_enter Try.func14, Try.ntmps14
  go_wp2
  go_loopw [5] (fun i wr => ∃ k : Nat, k ≤ m ∧ i = .int .i64 (k : Int) ∧ Below w.heap.size w wr) (fun i _ => m - (intOf i).toNat)
  case atStart => exact ⟨0, by omega, rfl, Below.refl _ _⟩
  case round =>
    obtain ⟨k, hk, rfl, hb⟩ := hrel
    by_cases hlt : k < m
    · obtain ⟨g1, rfl, _, hg1, c1⟩ := (H1.out.below hb).cells hlt
      obtain ⟨g2, rfl, _, hg2, c2⟩ := (H2.out.below hb).cells hlt
      have d1 : decide (k < m) = true := by simp; omega
      have HB := Lib.hid hb; have C1 := Lib.hid c1; have C2 := Lib.hid c2; have G1 := Lib.hid hg1; have G2 := Lib.hid hg2
      clear hb c1 c2 hg1 hg2
      go_wp2
      refine wp_region_grown_lit (by kernel_rfl) (by kernel_rfl) ?_
      repeat (first | go_big_quiet_skip | (go_big_quiet_want; (first | (refine grown_load_cells 53 _ rfl rfl (G1.out) (C1.out) Try.isAgg53 sz6 ?_; simp only [Act.put, List.setIfInBounds_toArray, List.set_cons_succ, List.set_cons_zero]; go_big_quiet_on) | (refine grown_load_cells 53 _ rfl rfl (G2.out) (C2.out) Try.isAgg53 sz6 ?_; simp only [Act.put, List.setIfInBounds_toArray, List.set_cons_succ, List.set_cons_zero]; go_big_quiet_on) | (go_big_quiet_op; (first | go_big_quiet_on | (refine ⟨_, fun _ _ => rfl, ?_⟩; go_big_quiet_on) | (apply Exists.intro; refine ⟨fun _ hC => ?_, ?_⟩; (first | (go_at_call 46; exact grown_of hC (eqA6_any _ _))); go_big_quiet_on))))))
      refine wpQuiet_nil ?_
      intro wg hg
      have HB1 := Lib.hid (HB.out.trans (hg.below.mono HB.out.size))
      clear hg
      go_wp2
      go_roundw
      case rel => exact ⟨k + 1, by omega, by go_num, HB1.out⟩
      case measure => simp [intOf]; omega
    · have d1 : decide (k < m) = false := by simp; omega
      go_wp2
      go_ret
      exact ⟨rfl, hb⟩
theorem markArrs6_any (o : Option Addr) (m c B : Nat) (f : Nat → Int) (hm : m ≤ 1000000) (w : World) (h : Arrs w 53 6 B o m c f) : Calls Try.prog 15 #[.slice o m c, .int .i64 1] w fun e w' => e = .returned (.int .i64 (((m * 6 : Nat) : Int) + 1)) ∧ Arrs w' 53 6 B o m c (fun i => (i : Int) + 1) ∧ w.grownBy w' (Value.ownBlock (.slice o m c)) := by
  by_cases h0 : 0 < m
  · obtain ⟨g, F, rfl, _, hB, hnc, hcm, hb, hx, hg⟩ := own_form h h0
    have HB0 := Lib.hid hb
    have HC := Lib.hid (And.intro hB (And.intro hnc hcm))
    have h1 : m ≤ c := hnc
    clear hx h hb hB hnc hcm
    go_enter Try.func15, Try.ntmps15
    go_wp2
    go_loopw [1, 5] (fun t i wr => ∃ k : Nat, k ≤ m ∧ i = .int .i64 (k : Int) ∧ t = .int .i64 (((k * 6 : Nat) : Int) + 1) ∧ Blk wr g (c * 6) 53 (fun i => if i < k * 6 then .int .i64 ((i : Int) + 1) else F i) ∧ w.grownBy wr (some g)) (fun t i _ => m - (intOf i).toNat)
    case atStart => exact ⟨0, by omega, rfl, rfl, HB0.out.ext (fun i _ => by simp), grown_refl _ _⟩
    case round =>
      obtain ⟨k, hk, rfl, rfl, hR, hgr⟩ := hrel
      have R1 := Lib.hid hR; have G1 := Lib.hid hgr
      clear hR hgr
      by_cases hlt : k < m
      · have d1 : decide (k < m) = true := by simp; omega
        obtain ⟨wo, rfl⟩ : ∃ wo : World, wo = wr := ⟨_, rfl⟩
        go_wp2
        go_loopw [1, 6] (fun t i wr => ∃ j : Nat, j ≤ 6 ∧ i = .int .i64 (j : Int) ∧ t = .int .i64 (((k * 6 + j : Nat) : Int) + 1) ∧ Blk wr g (c * 6) 53 (fun i => if i < k * 6 + j then .int .i64 ((i : Int) + 1) else F i) ∧ w.grownBy wr (some g)) (fun t i _ => 6 - (intOf i).toNat)
        case atStart => exact ⟨0, by omega, rfl, rfl, R1.out, G1.out⟩
        case round =>
          obtain ⟨j, hj, rfl, rfl, hR, hgr⟩ := hrel
          clear R1 G1
          by_cases hlj : j < 6
          · have c0 : wr.cell? ⟨g, k * 6 + j, none⟩ = some (if k * 6 + j < k * 6 + j then .int .i64 (((k * 6 + j : Nat) : Int) + 1) else F (k * 6 + j)) := hR.cell (by omega)
            have f0 : wr.frozen? ⟨g, k * 6 + j, none⟩ = false := hR.free _
            have d2 : decide ((j : Int) < 6) = true := by simp; omega
            have R1 := Lib.hid hR; have G1 := Lib.hid hgr
            clear hR hgr
            go_wp2
            go_roundw
            case rel =>
              refine ⟨j + 1, by omega, by go_num, by go_num, (R1.out.set (by omega) _).ext (fun i hi => ?_), grown_set G1.out _ _⟩
              simp only [upd]
              by_cases e : i = k * 6 + j
              · subst e; rw [if_pos rfl, if_pos (by omega)]; try simp
              · rw [if_neg e]
                by_cases e2 : i < k * 6 + j
                · rw [if_pos e2, if_pos (by omega)]
                · rw [if_neg e2, if_neg (by omega)]
            case measure => simp [intOf]; omega
          · obtain rfl : j = 6 := by omega
            go_wp2
            go_roundw
            case rel => exact ⟨k + 1, by omega, by go_num, by go_num, hR.ext (fun i hi => by rw [show k * 6 + 6 = (k + 1) * 6 by omega]), hgr⟩
            case measure => simp [intOf]; omega
      · have d1 : decide (k < m) = false := by simp; omega
        have e0 : k = m := by omega
        go_wp2
        go_ret
        exact ⟨by rw [e0]; rfl, Arrs.ofBlk HC.out.1 HC.out.2.1 HC.out.2.2 R1.out (fun i hi => by rw [if_pos (by rw [e0]; exact hi)]), G1.out⟩
  · obtain rfl : m = 0 := by omega
    have H := Lib.hid h; clear h
    go_enter Try.func15, Try.ntmps15
    go_wp2
    go_loopw [1, 5] (fun t i wr => i = .int .i64 0 ∧ t = .int .i64 1 ∧ w = wr) (fun t i _ => 0)
    case atStart => exact ⟨rfl, rfl, rfl⟩
    case round =>
      obtain ⟨rfl, rfl, rfl⟩ := hrel
      go_wp2
      go_ret
      exact ⟨rfl, H.out, grown_refl _ _⟩
theorem heldArrs6_any (o : Option Addr) (m c B : Nat) (hm : m ≤ 1000000) (w : World) (h : Arrs w 53 6 B o m c (fun i => (i : Int) + 1)) : Calls Try.prog 16 #[.slice o m c, .int .i64 1] w fun e w' => e = .returned (.int .i64 (((m * 6 : Nat) : Int) + 1)) ∧ w = w' := by
  have H := Lib.hid h; clear h
  go_enter Try.func16, Try.ntmps16
  go_wp2
  go_loopw [1, 5] (fun t i wr => ∃ k : Nat, k ≤ m ∧ i = .int .i64 (k : Int) ∧ t = .int .i64 (((k * 6 : Nat) : Int) + 1) ∧ w = wr) (fun t i _ => m - (intOf i).toNat)
  case atStart => exact ⟨0, by omega, rfl, rfl, rfl⟩
  case round =>
    obtain ⟨k, hk, rfl, rfl, rfl⟩ := hrel
    by_cases hlt : k < m
    · have d1 : decide (k < m) = true := by simp; omega
      go_wp2
      go_loopw [1, 6] (fun t i wr => ∃ j : Nat, j ≤ 6 ∧ i = .int .i64 (j : Int) ∧ t = .int .i64 (((k * 6 + j : Nat) : Int) + 1) ∧ w = wr) (fun t i _ => 6 - (intOf i).toNat)
      case atStart => exact ⟨0, by omega, rfl, rfl, rfl⟩
      case round =>
        obtain ⟨j, hj, rfl, rfl, rfl⟩ := hrel
        by_cases hlj : j < 6
        · obtain ⟨g, rfl, _, _, c0⟩ := H.out.cell hlt hlj
          have d2 : decide ((j : Int) < 6) = true := by simp; omega
          have d3 : (((k * 6 + j : Nat) : Int) + 1 != ((k * 6 + j : Nat) : Int) + 1) = false := by simp
          go_wp2
          go_roundw
          case rel => exact ⟨j + 1, by omega, by go_num, by go_num, trivial⟩
          case measure => simp [intOf]; omega
        · obtain rfl : j = 6 := by omega
          go_wp2
          go_roundw
          case rel => exact ⟨k + 1, by omega, by go_num, by go_num, trivial⟩
          case measure => simp [intOf]; omega
    · have d1 : decide (k < m) = false := by simp; omega
      have e0 : k = m := by omega
      go_wp2
      go_ret
      exact ⟨by rw [e0]; rfl, rfl⟩
end Go.Proofs.Ytbfhfadfjgfmaaa
