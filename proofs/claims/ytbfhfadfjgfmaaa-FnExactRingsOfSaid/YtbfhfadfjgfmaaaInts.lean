/- Slices of ints that a call has made: how a law compares them, marks them and asks for the marks; a pool that a law has made, marked. -/
import Derived.Test.YtbfhfadfjgfmaaaPools
import Derived.Laws.AppendOwn
import Derived.Laws.OwnMore
set_option linter.unusedVariables false
set_option linter.unusedSimpArgs false
set_option linter.unusedSectionVars false
namespace Go.Proofs.Ytbfhfadfjgfmaaa
open Go.RowKit
theorem row_of_array (cs : Array Value) (N : Nat) (h : cs.size = N) : ∃ F, cs = row N F := by
  refine ⟨fun i => cs.getD i undef, ?_⟩
  subst h
  apply Array.ext
  · simp [row_size]
  · intro i h1 h2
    simp [row, Array.getD_eq_getD_getElem?, h1]
theorem grown_none {w w' : World} (h : Below w.heap.size w w') (row : Option Nat) : w.grownBy w' row := ⟨h.os, h.tape, h.output, h.size, fun k hk _ => h.block k hk⟩
theorem grown_refl (w : World) (row : Option Nat) : w.grownBy w row := ⟨rfl, rfl, rfl, Nat.le_refl _, fun _ _ _ => rfl⟩
theorem grown_set {w w' : World} {g : Nat} (h : w.grownBy w' (some g)) (k : Nat) (v : Value) : w.grownBy (w'.setCell ⟨g, k, none⟩ v) (some g) :=
  ⟨h.os, h.tape, h.output, by simpa using h.size, fun b hb hne => by
    rw [heap_setCell_other w' ⟨g, k, none⟩ b v (fun e => hne (by rw [e]))]
    exact h.block b hb hne⟩
/-- What a write to a block of the call's own leaves of what was there before the call. -/
theorem below_grown {B : Nat} {w0 w w' : World} {row : Option Nat} (h : Below B w0 w) (hg : w.grownBy w' row) (hr : ∀ g, row = some g → B ≤ g) (hB : B ≤ w.heap.size) : Below B w0 w' :=
  h.trans ⟨hg.os, hg.tape, hg.output, hg.size, fun k hk => hg.block k (by omega) (fun e => by have := hr _ e.symm; omega)⟩
theorem PoolAt.grown {w w' : World} {o : Option Addr} {n : Nat} {x : Nat → Nat → Int} {row : Option Nat} (h : PoolAt w o n x) (hg : w.grownBy w' row) (hne : ∀ a, o = some a → some a.block ≠ row) : PoolAt w' o n x := fun i hi => by
  obtain ⟨a, h1, h2, h3⟩ := h i hi
  refine ⟨a, h1, by have := hg.size; omega, fun j hj => ?_⟩
  rw [World.cell?_of_block (hg.block _ (by rw [add_block, add_block]; exact h2) (by rw [add_block, add_block]; exact hne a h1))]
  exact h3 j hj
section
variable {w w' : World} {B b : Nat} {e : TypeId} {s m c : Nat} {o : Option Addr} {v v' : Value} {xs ys : List Value} {n : Nat}
theorem own_below (h : w.ownsRow B e s v n xs) (hb : Below w.heap.size w w') : w'.ownsRow B e s v n xs := h.kept (row := none) (grown_none hb none) (by cases v.ownBlock <;> simp)
theorem own_ne {w1 : World} {B1 e1 s1 n1 : Nat} {v1 : Value} {xs1 : List Value} (h1 : w1.ownsRow B1 e1 s1 v1 n1 xs1) (h : w.ownsRow B e s v n xs) (hB : w1.heap.size ≤ B) : v1.ownBlock = none ∨ v1.ownBlock ≠ v.ownBlock := by
  cases q1 : v1.ownBlock with
  | none => exact .inl rfl
  | some k1 =>
    right
    intro q
    have a1 := (h1.lt k1 q1).2
    have a2 := (h.lt k1 q.symm).1
    omega
theorem own_form (h : w.ownsRow B e s (.slice o m c) n xs) (hn : 0 < n) : ∃ g F, o = some ⟨g, 0, none⟩ ∧ m = n ∧ B ≤ g ∧ n ≤ c ∧ c ≤ maxLen ∧ Blk w g (c * s) e F ∧ (∀ i, i < n * s → xs[i]? = some (F i)) ∧ g < w.heap.size := by
  obtain ⟨h1, h2⟩ := h
  rcases h2 with ⟨_, h0⟩ | ⟨g, cap, cur, hv, hb, hg, hnc, hcm, hcs, htk⟩
  · omega
  · injection hv with e1 e2 e3
    subst e1; subst e2; subst e3
    obtain ⟨F, hF⟩ := row_of_array cur (c * s) hcs
    subst hF
    refine ⟨g, F, rfl, rfl, hb, hnc, hcm, hg, fun i hi => ?_, (Array.getElem?_eq_some_iff.1 hg).1⟩
    rw [← htk, List.getElem?_take_of_lt hi]
    have : i < c * s := Nat.lt_of_lt_of_le hi (Nat.mul_le_mul_right s hnc)
    rw [Array.getElem?_toList]
    exact row_get this
theorem own_of {g : Nat} {F : Nat → Value} (hB : B ≤ g) (hnc : n ≤ c) (hcm : c ≤ maxLen) (hb : Blk w g (c * s) e F) (hl : xs.length = n * s) (hx : ∀ i, i < n * s → xs[i]? = some (F i)) : w.ownsRow B e s (.slice (some ⟨g, 0, none⟩) n c) n xs := by
  refine ⟨hl, .inr ⟨g, c, _, rfl, hB, hb, hnc, hcm, row_size _ _, ?_⟩⟩
  apply List.ext_getElem?
  intro i
  by_cases hi : i < n * s
  · rw [List.getElem?_take_of_lt hi, hx i hi, Array.getElem?_toList]
    exact row_get (Nat.lt_of_lt_of_le hi (Nat.mul_le_mul_right s hnc))
  · rw [List.getElem?_eq_none (by simp; omega), List.getElem?_eq_none (by omega)]
end
/-- The cells of m ints. -/
def intL (f : Nat → Int) (m : Nat) : List Value := (List.range m).map (I f)
theorem intL_len (f : Nat → Int) (m : Nat) : (intL f m).length = m := by simp [intL]
theorem intL_get (f : Nat → Int) {m i : Nat} (h : i < m) : (intL f m)[i]? = some (.int .i64 (f i)) := by simp [intL, h, I]
theorem intL_get1 (f : Nat → Int) {m i : Nat} {v : Value} (h : i < m * 1) (hv : (intL f m)[i]? = some v) : v = .int .i64 (f i) := by rw [intL_get f (by omega)] at hv; exact (Option.some.inj hv).symm
/-- A slice value that owns m ints from block B on. -/
def Ints (w : World) (B : Nat) (o : Option Addr) (m c : Nat) (f : Nat → Int) : Prop := w.ownsRow B 3 1 (.slice o m c) m (intL f m)
namespace Ints
variable {w w' : World} {B m c : Nat} {o : Option Addr} {f : Nat → Int}
theorem below (h : Ints w B o m c f) (hb : Below w.heap.size w w') : Ints w' B o m c f := own_below h hb
theorem cell (h : Ints w B o m c f) {k : Nat} (hk : k < m) : ∃ g, o = some ⟨g, 0, none⟩ ∧ B ≤ g ∧ g < w.heap.size ∧ w.cell? ⟨g, k, none⟩ = some (.int .i64 (f k)) := by
  obtain ⟨g, F, h1, _, h2, h3, _, h4, h5, h6⟩ := own_form h (by omega)
  refine ⟨g, h1, h2, h6, ?_⟩
  rw [h4.cell (by omega)]
  have := h5 k (by omega)
  rw [intL_get f hk] at this
  exact this.symm
theorem ofBlk {g : Nat} {F : Nat → Value} (hB : B ≤ g) (hnc : m ≤ c) (hcm : c ≤ maxLen) (hb : Blk w g c 3 F) (hx : ∀ i, i < m → F i = .int .i64 (f i)) : Ints w B (some ⟨g, 0, none⟩) m c f :=
  own_of hB hnc hcm (by rw [Nat.mul_one]; exact hb) (by rw [intL_len, Nat.mul_one]) (fun i hi => by rw [intL_get f (by omega), hx i (by omega)])
/-- A write to another block leaves it. -/
theorem grown {row : Option Nat} (h : Ints w B o m c f) (hg : w.grownBy w' row) (hne : Value.ownBlock (.slice o m c) = Option.none ∨ Value.ownBlock (.slice o m c) ≠ row) : Ints w' B o m c f := World.ownsRow.kept h hg hne
theorem apart {w2 : World} (h : Ints w2 B o m c f) {b : Nat} (hb : w2.heap.size ≤ b) : Value.ownBlock (.slice o m c) = Option.none ∨ Value.ownBlock (.slice o m c) ≠ some b := by
  cases q : Value.ownBlock (.slice o m c) with
  | none => exact .inl rfl
  | some k => exact .inr (fun e => by injection e with e; have := (World.ownsRow.lt h k q).2; omega)
theorem behind {w2 : World} (h : Ints w2 B o m c f) {b : Nat} (hb : b < B) : Value.ownBlock (.slice o m c) = Option.none ∨ Value.ownBlock (.slice o m c) ≠ some b := by
  cases q : Value.ownBlock (.slice o m c) with
  | none => exact .inl rfl
  | some k => exact .inr (fun e => by injection e with e; have := (World.ownsRow.lt h k q).1; omega)
theorem sep {w1 w2 : World} {B2 m2 c2 : Nat} {o2 : Option Addr} {f2 : Nat → Int} (h : Ints w1 B o m c f) (h2 : Ints w2 B2 o2 m2 c2 f2) (hB : w1.heap.size ≤ B2) : Value.ownBlock (.slice o m c) = Option.none ∨ Value.ownBlock (.slice o m c) ≠ Value.ownBlock (.slice o2 m2 c2) := own_ne h h2 hB
theorem nil (w : World) (B : Nat) (f : Nat → Int) : Ints w B Option.none 0 0 f := ⟨by simp [intL], .inl ⟨rfl, rfl⟩⟩
end Ints
theorem heldInts_any (o : Option Addr) (m c B : Nat) (hm : m ≤ 1000000) (w : World) (h : Ints w B o m c (fun i => (i : Int) + 1)) : Calls Try.prog 79 #[.slice o m c, .int .i64 1] w fun e w' => e = .returned (.int .i64 ((m : Int) + 1)) ∧ w = w' := by
  have H := Lib.hid h; clear h
  go_enter Try.func79, Try.ntmps79
  go_wp2
  go_loopw [1, 5] (fun t i wr => ∃ k : Nat, k ≤ m ∧ i = .int .i64 (k : Int) ∧ t = .int .i64 ((k : Int) + 1) ∧ w = wr) (fun t i _ => m - (intOf i).toNat)
  case atStart => exact ⟨0, by omega, rfl, rfl, rfl⟩
  case round =>
    obtain ⟨k, hk, rfl, rfl, rfl⟩ := hrel
    by_cases hlt : k < m
    · obtain ⟨g, rfl, _, _, c0⟩ := H.out.cell hlt
      have d1 : decide (k < m) = true := by simp; omega
      have d2 : ((k : Int) + 1 != (k : Int) + 1) = false := by simp
      go_wp2
      go_roundw
      case rel => exact ⟨k + 1, by omega, by go_num, by go_num, trivial⟩
      case measure => simp [intOf]; omega
    · have d1 : decide (k < m) = false := by simp; omega
      have e0 : k = m := by omega
      go_wp2
      go_ret
      exact ⟨by rw [e0]; rfl, rfl⟩
theorem markInts_any (o : Option Addr) (m c B : Nat) (f : Nat → Int) (hm : m ≤ 1000000) (w : World) (h : Ints w B o m c f) : Calls Try.prog 78 #[.slice o m c, .int .i64 1] w fun e w' => e = .returned (.int .i64 ((m : Int) + 1)) ∧ Ints w' B o m c (fun i => (i : Int) + 1) ∧ w.grownBy w' (Value.ownBlock (.slice o m c)) := by
  by_cases h0 : 0 < m
  · obtain ⟨g, F, rfl, _, hB, hnc, hcm, hb, hx, hg⟩ := own_form h h0
    rw [Nat.mul_one] at hb
    have HB0 := Lib.hid hb
    have HC := Lib.hid (And.intro hB (And.intro hnc hcm))
    have h1 : m ≤ c := hnc
    clear hx h hb hB hnc hcm
    go_enter Try.func78, Try.ntmps78
    go_wp2
    go_loopw [1, 5] (fun t i wr => ∃ k : Nat, k ≤ m ∧ i = .int .i64 (k : Int) ∧ t = .int .i64 ((k : Int) + 1) ∧ Blk wr g c 3 (fun i => if i < k then .int .i64 ((i : Int) + 1) else F i) ∧ w.grownBy wr (some g)) (fun t i _ => m - (intOf i).toNat)
    case atStart => exact ⟨0, by omega, rfl, rfl, HB0.out.ext (fun i _ => by simp), grown_refl _ _⟩
    case round =>
      obtain ⟨k, hk, rfl, rfl, hR, hgr⟩ := hrel
      by_cases hlt : k < m
      · have c0 : wr.cell? ⟨g, k, none⟩ = some (if k < k then .int .i64 ((k : Int) + 1) else F k) := hR.cell (by omega)
        have f0 : wr.frozen? ⟨g, k, none⟩ = false := hR.free k
        have d1 : decide (k < m) = true := by simp; omega
        have R1 := Lib.hid hR; have G1 := Lib.hid hgr
        clear hR hgr
        go_wp2
        go_roundw
        case rel =>
          refine ⟨k + 1, by omega, by go_num, by go_num, (R1.out.set (by omega) _).ext (fun i hi => ?_), grown_set G1.out k _⟩
          simp only [upd]
          by_cases e : i = k
          · subst e; rw [if_pos rfl, if_pos (by omega)]
          · rw [if_neg e]
            by_cases e2 : i < k
            · rw [if_pos e2, if_pos (by omega)]
            · rw [if_neg e2, if_neg (by omega)]
        case measure => simp [intOf]; omega
      · have d1 : decide (k < m) = false := by simp; omega
        have e0 : k = m := by omega
        have R1 := Lib.hid hR; have G1 := Lib.hid hgr
        clear hR hgr
        go_wp2
        go_ret
        exact ⟨by rw [e0]; rfl, Ints.ofBlk HC.out.1 HC.out.2.1 HC.out.2.2 R1.out (fun i hi => by rw [if_pos (by omega)]), G1.out⟩
  · obtain rfl : m = 0 := by omega
    have H := Lib.hid h; clear h
    have d1 : decide ((0 : Nat) < 0) = false := by simp
    go_enter Try.func78, Try.ntmps78
    go_wp2
    go_loopw [1, 5] (fun t i wr => i = .int .i64 0 ∧ t = .int .i64 1 ∧ w = wr) (fun t i _ => 0)
    case atStart => exact ⟨rfl, rfl, rfl⟩
    case round =>
      obtain ⟨rfl, rfl, rfl⟩ := hrel
      go_wp2
      go_ret
      exact ⟨rfl, H.out, grown_refl _ _⟩
theorem eqInts_any (o1 o2 : Option Addr) (m c1 c2 B1 B2 : Nat) (f : Nat → Int) (hm : m ≤ 1000000) (w : World) (h1 : Ints w B1 o1 m c1 f) (h2 : Ints w B2 o2 m c2 f) : Calls Try.prog 77 #[.slice o1 m c1, .slice o2 m c2] w fun e w' => e = .returned (.bool true) ∧ Below w.heap.size w w' := by
  have H1 := Lib.hid h1; have H2 := Lib.hid h2; clear h1 h2
  have d0 : ((m : Int) == (m : Int)) = true := by simp
  go_enter Try.func77, Try.ntmps77
  go_wp2
  go_loopw [5] (fun i wr => ∃ k : Nat, k ≤ m ∧ i = .int .i64 (k : Int) ∧ Below w.heap.size w wr) (fun i _ => m - (intOf i).toNat)
  case atStart => exact ⟨0, by omega, rfl, Below.refl _ _⟩
  case round =>
    obtain ⟨k, hk, rfl, hb⟩ := hrel
    by_cases hlt : k < m
    · obtain ⟨g1, rfl, _, _, c1⟩ := (H1.out.below hb).cell hlt
      obtain ⟨g2, rfl, _, _, c2⟩ := (H2.out.below hb).cell hlt
      have d1 : decide (k < m) = true := by simp; omega
      have HB := Lib.hid hb
      clear hb
      go_wp2
      go_quiet (fail)
      go_wp2
      go_roundw
      case rel => exact ⟨k + 1, by omega, by go_num, below_drewN HB.out _⟩
      case measure => simp [intOf]; omega
    · have d1 : decide (k < m) = false := by simp; omega
      go_wp2
      go_ret
      exact ⟨rfl, hb⟩
/-- A pool that the call has made, in its block. -/
def PoolBlk (w : World) (b n : Nat) (x : Nat → Nat → Int) : Prop := Blk w b (n * 6) 53 (I fun p => x (p / 6) (p % 6))
theorem PoolBlk.at_ {w : World} {b n : Nat} {x : Nat → Nat → Int} (h : PoolBlk w b n x) : PoolAt w (some ⟨b, 0, none⟩) n x :=
  PoolAt.ofBlk h (fun i hi j hj => by rw [show (i * 6 + j) / 6 = i by omega, show (i * 6 + j) % 6 = j by omega])
theorem PoolBlk.below {w w' : World} {b n B : Nat} {x : Nat → Nat → Int} (h : PoolBlk w b n x) (hb : Below B w w') (hB : b < B) : PoolBlk w' b n x := Blk.below h hb hB
theorem toPool_blk (o : Option Addr) (n cap : Nat) (x : Nat → Nat → Int) (hn : n ≤ 1048576) (w : World) (h0 : PoolAt w o n x) : Calls Try.prog 12 #[poolV o n cap] w fun e w' => e = .returned (poolV (some ⟨w.heap.size, 0, none⟩) n n) ∧ PoolBlk w' w.heap.size n x ∧ Below w.heap.size w w' := by
  have H0 := Lib.hid h0; clear h0
  go_enter Try.func12, Try.ntmps12
  go_wp2_with (first | (((with_reducible apply wpList_makePool); (case hw => rfl); (case ho => rfl); (case hx => rfl); (case hy => rfl); (case hn => exact hn))) | fail)
  go_loopw [4] (fun i wr => ∃ k : Nat, k ≤ n ∧ i = .int .i64 k ∧ Blk wr w.heap.size (n * 6) 53 (I fun p => if p < k * 6 then x (p / 6) (p % 6) else 0) ∧ Below w.heap.size w wr) (fun i _ => n - (intOf i).toNat)
  case atStart => exact ⟨0, by omega, rfl, Blk.ext (f := I fun _ => 0) (Blk.new _ _ _ _) (fun i _ => by simp [I]), (Below.refl _ _).alloc (Nat.le_refl _) _⟩
  case round =>
    obtain ⟨k, hk, rfl, hR, hb⟩ := hrel
    by_cases hlt : k < n
    · obtain ⟨a, rfl, ha, hc⟩ := H0.out.below hb k hlt
      have HC := Lib.hid hc; have HR := Lib.hid hR; have HB := Lib.hid hb; have HAB := Lib.hid ha
      clear hc hR hb ha
      go_wp2_with (first | ((refine wpList_load_cells rfl 53 _ rfl rfl HC.out Try.isAgg53 sz6 ?_)) | fail)
      go_at_call 41
      refine (toA6_any (x k) _).mono ?_
      rintro e w1 ⟨rfl, hb1⟩
      have HR1 := Lib.hid (HR.out.below hb1 HR.out.lt); have HB1 := Lib.hid (HB.out.trans (hb1.mono HB.out.size)); clear hb1
      have hk6 : k * 6 + 6 ≤ n * 6 := by omega
      go_wp2_with (first | ((refine wpList_store_part rfl 53 _ _ rfl HR1.out rfl rfl hk6 sz6 (fun _ _ => rfl) ?_)) | fail)
      go_roundw
      case rel =>
        refine ⟨k + 1, by omega, by go_num, (HR1.out.setRow _).ext (fun p hp => ?_), below_setRow HB1.out (Nat.le_refl _) _⟩
        simp only [splice, I]
        by_cases h1 : p < k * 6
        · rw [if_neg (by omega), if_pos h1, if_pos (by omega)]
        · by_cases h2 : p < k * 6 + 6
          · rw [if_pos ⟨by omega, h2⟩, if_pos (by omega), show p / 6 = k by omega, show p - k * 6 = p % 6 by omega]
          · rw [if_neg (by omega), if_neg h1, if_neg (by omega)]
      case measure => simp [intOf]; omega
    · obtain rfl : k = n := by omega
      have HR := Lib.hid hR; have HB := Lib.hid hb
      clear hR hb
      go_wp2
      go_ret
      exact ⟨rfl, HR.out.ext (fun p hp => by simp only [I]; rw [if_pos hp]), HB.out⟩
theorem markPool_any (b n : Nat) (x : Nat → Nat → Int) (hn : n ≤ 1048576) (w : World) (h : PoolBlk w b n x) : Calls Try.prog 15 #[poolV (some ⟨b, 0, none⟩) n n, .int .i64 1] w fun e w' => e = .returned (.int .i64 ((n * 6 : Nat) + 1 : Int)) ∧ w.grownBy w' (some b) := by
  have H := Lib.hid h; clear h
  go_enter Try.func15, Try.ntmps15
  go_wp2
  go_loopw [1, 5] (fun t i wr => ∃ k : Nat, k ≤ n ∧ i = .int .i64 (k : Int) ∧ t = .int .i64 ((k * 6 : Nat) + 1 : Int) ∧ (∃ F, Blk wr b (n * 6) 53 (I F)) ∧ w.grownBy wr (some b)) (fun t i _ => n - (intOf i).toNat)
  case atStart => exact ⟨0, by omega, rfl, rfl, ⟨_, H.out⟩, grown_refl _ _⟩
  case round =>
    obtain ⟨k, hk, rfl, rfl, ⟨F, hR⟩, hgr⟩ := hrel
    have R1 := Lib.hid hR; have G1 := Lib.hid hgr
    clear hR hgr
    by_cases hlt : k < n
    · have d1 : decide (k < n) = true := by simp; omega
      obtain ⟨wo, rfl⟩ : ∃ wo : World, wo = wr := ⟨_, rfl⟩
      go_wp2
      go_loopw [1, 6] (fun t i wr => ∃ j : Nat, j ≤ 6 ∧ i = .int .i64 (j : Int) ∧ t = .int .i64 ((k * 6 + j : Nat) + 1 : Int) ∧ (∃ F, Blk wr b (n * 6) 53 (I F)) ∧ w.grownBy wr (some b)) (fun t i _ => 6 - (intOf i).toNat)
      case atStart => exact ⟨0, by omega, rfl, rfl, ⟨_, R1.out⟩, G1.out⟩
      case round =>
        obtain ⟨j, hj, rfl, rfl, ⟨F, hR⟩, hgr⟩ := hrel
        clear R1 G1
        by_cases hlj : j < 6
        · have c0 : wr.cell? ⟨b, k * 6 + j, none⟩ = some (.int .i64 (F (k * 6 + j))) := hR.cell (by omega)
          have f0 : wr.frozen? ⟨b, k * 6 + j, none⟩ = false := hR.free _
          have d2 : decide ((j : Int) < 6) = true := by simp; omega
          have R1 := Lib.hid hR; have G1 := Lib.hid hgr
          clear hR hgr
          go_wp2
          go_roundw
          case rel => exact ⟨j + 1, by omega, by go_num, by go_num, ⟨_, I_upd F _ _ ▸ (R1.out.set (by omega) _)⟩, grown_set G1.out _ _⟩
          case measure => simp [intOf]; omega
        · obtain rfl : j = 6 := by omega
          go_wp2
          go_roundw
          case rel => exact ⟨k + 1, by omega, by go_num, by go_num, ⟨_, hR⟩, hgr⟩
          case measure => simp [intOf]; omega
    · have d1 : decide (k < n) = false := by simp; omega
      have e0 : k = n := by omega
      go_wp2
      go_ret
      exact ⟨by rw [e0]; rfl, G1.out⟩
end Go.Proofs.Ytbfhfadfjgfmaaa
