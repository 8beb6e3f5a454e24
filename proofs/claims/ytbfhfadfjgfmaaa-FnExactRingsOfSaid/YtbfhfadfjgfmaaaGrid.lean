/- Slices of slices of ints that a call has made: what they own, how a law compares them, marks them and asks for the marks; append of one row. -/
import Derived.Test.YtbfhfadfjgfmaaaGrow
set_option linter.unusedVariables false
set_option linter.unusedSimpArgs false
set_option linter.unusedSectionVars false
namespace Go.Proofs.Ytbfhfadfjgfmaaa
open Go.RowKit
theorem own_typed {w : World} {B s n : Nat} {e : TypeId} {v : Value} {xs : List Value} (h : w.ownsRow B e s v n xs) {g : Nat} (hg : v.ownBlock = some g) : ∃ cs, w.heap[g]? = some (.cells cs e (0, 0)) := by
  obtain ⟨_, h2⟩ := h
  rcases h2 with ⟨rfl, _⟩ | ⟨b, cap, cur, rfl, _, hb, _⟩
  · cases hg
  · obtain rfl : b = g := by simpa [Value.ownBlock] using hg
    exact ⟨_, hb⟩
abbrev rowSl (ad : Nat → Option Addr × Nat) (len : Nat → Nat) (i : Nat) : Value := .slice (ad i).1 (len i) (ad i).2
def gridL (ad : Nat → Option Addr × Nat) (len : Nat → Nat) (m : Nat) : List Value := (List.range m).map (rowSl ad len)
theorem gridL_len (ad : Nat → Option Addr × Nat) (len : Nat → Nat) (m : Nat) : (gridL ad len m).length = m := by simp [gridL]
theorem gridL_get (ad : Nat → Option Addr × Nat) (len : Nat → Nat) {m i : Nat} (h : i < m) : (gridL ad len m)[i]? = some (rowSl ad len i) := by simp [gridL, h]
/-- A slice that owns m rows of ints, each in a block of its own, from block B on. -/
structure Grid (w : World) (B : Nat) (o : Option Addr) (m c : Nat) (ad : Nat → Option Addr × Nat) (len : Nat → Nat) (f : Nat → Nat → Int) : Prop where
  outer : w.ownsRow B 60 1 (.slice o m c) m (gridL ad len m)
  rows : ∀ i, i < m → Ints w B (ad i).1 (len i) (ad i).2 (f i)
  sep : ∀ i j, i < j → j < m → (rowSl ad len i).ownBlock = none ∨ (rowSl ad len i).ownBlock ≠ (rowSl ad len j).ownBlock
namespace Grid
variable {w w' : World} {B m c : Nat} {o : Option Addr} {ad : Nat → Option Addr × Nat} {len : Nat → Nat} {f : Nat → Nat → Int}
theorem below (h : Grid w B o m c ad len f) (hb : Below w.heap.size w w') : Grid w' B o m c ad len f := ⟨own_below h.outer hb, fun i hi => (h.rows i hi).below hb, h.sep⟩
theorem lt (h : Grid w B o m c ad len f) {i : Nat} (hi : i < m) {g : Nat} (e : (rowSl ad len i).ownBlock = some g) : B ≤ g ∧ g < w.heap.size := World.ownsRow.lt (h.rows i hi) g e
theorem apart (h : Grid w B o m c ad len f) {i : Nat} (hi : i < m) : (rowSl ad len i).ownBlock = none ∨ (rowSl ad len i).ownBlock ≠ Value.ownBlock (.slice o m c) := by
  cases q : (rowSl ad len i).ownBlock with
  | none => exact .inl rfl
  | some g =>
    refine .inr fun e => ?_
    obtain ⟨cs, h1⟩ := own_typed (h.rows i hi) q
    obtain ⟨cs', h2⟩ := own_typed h.outer e.symm
    rw [h1] at h2
    injection h2 with h2
    injection h2 with _ h2
    exact absurd h2 (by decide)
theorem grown {r : Option Nat} (h : Grid w B o m c ad len f) (hg : w.grownBy w' r) (h1 : Value.ownBlock (.slice o m c) = none ∨ Value.ownBlock (.slice o m c) ≠ r) (h2 : ∀ i, i < m → (rowSl ad len i).ownBlock = none ∨ (rowSl ad len i).ownBlock ≠ r) : Grid w' B o m c ad len f :=
  ⟨World.ownsRow.kept h.outer hg h1, fun i hi => (h.rows i hi).grown hg (h2 i hi), h.sep⟩
theorem outer_lt (h : Grid w B o m c ad len f) {g : Nat} (e : Value.ownBlock (.slice o m c) = some g) : B ≤ g ∧ g < w.heap.size := World.ownsRow.lt h.outer g e
/-- A block outside: below the grid's base, or made behind it. -/
theorem out {b : Nat} (h : Grid w B o m c ad len f) (hb : b < B ∨ w.heap.size ≤ b) {w2 : World} (hg : w2.grownBy w' (some b)) (h2 : Grid w2 B o m c ad len f) : Grid w' B o m c ad len f := by
  refine h2.grown hg ?_ fun i hi => ?_
  · cases q : Value.ownBlock (.slice o m c) with
    | none => exact .inl rfl
    | some g => exact .inr fun e => by injection e with e; have := h.outer_lt q; omega
  · cases q : (rowSl ad len i).ownBlock with
    | none => exact .inl rfl
    | some g => exact .inr fun e => by injection e with e; have := h.lt hi q; omega
theorem cell (h : Grid w B o m c ad len f) {k : Nat} (hk : k < m) : ∃ g, o = some ⟨g, 0, none⟩ ∧ B ≤ g ∧ g < w.heap.size ∧ w.cell? ⟨g, k, none⟩ = some (rowSl ad len k) := by
  obtain ⟨g, F, h1, _, h2, h3, _, h4, h5, h6⟩ := own_form h.outer (by omega)
  refine ⟨g, h1, h2, h6, ?_⟩
  rw [h4.cell (by omega)]
  have := h5 k (by omega)
  rw [gridL_get ad len hk] at this
  exact this.symm
theorem nil (w : World) (B : Nat) (ad : Nat → Option Addr × Nat) (len : Nat → Nat) (f : Nat → Nat → Int) : Grid w B Option.none 0 0 ad len f := ⟨⟨by simp [gridL], .inl ⟨rfl, rfl⟩⟩, fun i hi => by omega, fun i j _ hj => by omega⟩
theorem empty (w : World) (B : Nat) (ad : Nat → Option Addr × Nat) (len : Nat → Nat) (f : Nat → Nat → Int) (hB : B ≤ w.heap.size) : Grid (w.alloc (.cells #[] 60)) B (some ⟨w.heap.size, 0, none⟩) 0 0 ad len f :=
  ⟨own_of (F := fun _ => undef) hB (Nat.le_refl _) (by omega) (Blk.new w 0 60 _) (by simp [gridL]) (fun i hi => by omega), fun i hi => by omega, fun i j _ hj => by omega⟩
theorem congr {f' : Nat → Nat → Int} (h : Grid w B o m c ad len f) (e : ∀ i, i < m → ∀ j, j < len i → f i j = f' i j) : Grid w B o m c ad len f' := ⟨h.outer, fun i hi => (h.rows i hi).congr (e i hi), h.sep⟩
theorem base {B' : Nat} (h : Grid w B o m c ad len f) (hB : B' ≤ B) : Grid w B' o m c ad len f := by
  refine ⟨⟨h.outer.1, ?_⟩, fun i hi => (h.rows i hi).base hB, h.sep⟩
  rcases h.outer.2 with h0 | ⟨g, cap, cur, h1, h2, h3⟩
  · exact .inl h0
  · exact .inr ⟨g, cap, cur, h1, by omega, h3⟩
end Grid
theorem infoG : (Try.prog.info? 60).map (fun i => (i.zero, i.size, i.bytes)) = some (some (.slice none 0 0), 1, 24) := by kernel_rfl
theorem gridL_snoc (ad : Nat → Option Addr × Nat) (len : Nat → Nat) (m : Nat) : gridL ad len m ++ [rowSl ad len m] = gridL ad len (m + 1) := by simp [gridL, List.range_succ]
theorem gridL_congr {ad ad' : Nat → Option Addr × Nat} {len len' : Nat → Nat} {m : Nat} (h : ∀ i, i < m → ad i = ad' i ∧ len i = len' i) : gridL ad len m = gridL ad' len' m := by
  unfold gridL
  apply List.map_congr_left
  intro i hi
  obtain ⟨h1, h2⟩ := h i (List.mem_range.1 hi)
  simp only [rowSl, h1, h2]
theorem slice_of_own {w : World} {B m : Nat} {e : TypeId} {v : Value} {xs : List Value} (h : w.ownsRow B e 1 v m xs) : ∃ o c, v = .slice o m c := by
  rcases h.2 with ⟨rfl, rfl⟩ | ⟨g, cap, cur, rfl, _⟩
  · exact ⟨none, 0, rfl⟩
  · exact ⟨some ⟨g, 0, none⟩, cap, rfl⟩
/-- append(out, line): the grid's one row more. -/
theorem wpList_append_grid {ops : Array Oper} {rest : List Oper} {o : Oper} {a : Act} {w : World} {Q : Exit → Act → World → Prop} (hgd : o.guard = none) {s x : Operand} {S : TypeId} (hS : Try.prog.underlying S = some (.slice 60))
    (ho : o.op = .call { callee := .builtin .append, args := #[s, x], argTypes := #[S, S] }) {B m c g n cp : Nat} {A p : Option Addr} {ad : Nat → Option Addr × Nat} {len : Nat → Nat} {f : Nat → Nat → Int} (hs : a.eval s = .slice A m c) (hx : a.eval x = .slice (some ⟨g, 0, none⟩) 1 1)
    (hz : w.cell? ⟨g, 0, none⟩ = some (.slice p n cp)) (hn : len m = n) (hgrid : Grid w B A m c ad len f) (hrow : Ints w B p n cp (f m)) (hsep : ∀ i, i < m → (rowSl ad len i).ownBlock = none ∨ (rowSl ad len i).ownBlock ≠ Value.ownBlock (.slice p n cp)) (hm : m ≤ 1000000) (hB : B ≤ w.heap.size)
    (h : ∀ A' c' w' ad', Grid w' B A' (m + 1) c' ad' len f → w.grownBy w' (Value.ownBlock (.slice A m c)) → wpList Try.prog ops Q rest (a.put o.dst (.slice A' (m + 1) c')) w') : wpList Try.prog ops Q (o :: rest) a w := by
  obtain ⟨i, hi, h0, h1, h2⟩ := info_get infoG
  have hpo : Value.ownBlock (.slice p n cp) = none ∨ Value.ownBlock (.slice p n cp) ≠ Value.ownBlock (.slice A m c) := by
    cases q : Value.ownBlock (.slice p n cp) with
    | none => exact .inl rfl
    | some g =>
      refine .inr fun e => ?_
      obtain ⟨cs, h1⟩ := own_typed hrow q
      obtain ⟨cs', h2⟩ := own_typed hgrid.outer e.symm
      rw [h1] at h2
      injection h2 with h2
      injection h2 with _ h2
      exact absurd h2 (by decide)
  refine wpList_append_own w hgd s x S ho B 60 i (.slice none 0 0) 1 24 hS hi h0 h1 h2 rfl (by decide) _ m (gridL ad len m) hs hgrid.outer ⟨g, 0, none⟩ 1 1 [.slice p n cp] hx rfl ?_ ?_ ?_ ?_ hB ?_
  · intro j u hu
    cases j with
    | zero => simp at hu; subst hu; exact hz
    | succ j => simp at hu
  · intro u hu; simp at hu; subst hu; rfl
  · unfold maxLen; omega
  · omega
  · intro v' w' hw' hg _
    obtain ⟨o', c', rfl⟩ := slice_of_own hw'
    refine h o' c' w' (fun j => if j = m then (p, cp) else ad j) ⟨?_, fun j hj => ?_, fun j k hjk hk => ?_⟩ hg
    · rw [← gridL_snoc]
      have e1 : rowSl (fun j => if j = m then (p, cp) else ad j) len m = .slice p n cp := by simp [rowSl, hn]
      rw [e1, gridL_congr (ad' := ad) (len' := len) (fun i hi => ⟨by rw [if_neg (by omega)], rfl⟩)]
      exact hw'
    · by_cases e : j = m
      · subst e
        simp only [if_true]
        rw [hn]
        exact hrow.grown hg hpo
      · rw [if_neg e]
        exact (hgrid.rows j (by omega)).grown hg (hgrid.apart (by omega))
    · simp only [rowSl]
      rw [if_neg (by omega)]
      by_cases e : k = m
      · subst e
        simp only [if_true]
        have := hsep j (by omega)
        rw [hn]
        exact this
      · rw [if_neg e]
        exact hgrid.sep j k hjk (by omega)
/-- Where the marks of row i begin. -/
def offL (len : Nat → Nat) : Nat → Nat
  | 0 => 1
  | i + 1 => offL len i + len i
theorem offL_le {len : Nat → Nat} {m b : Nat} (h : ∀ i, i < m → len i ≤ b) : ∀ i, i ≤ m → offL len i ≤ 1 + i * b
  | 0, _ => by simp [offL]
  | i + 1, hi => by
    have h1 := offL_le h i (by omega)
    have h2 := h i (by omega)
    simp only [offL]
    rw [Nat.succ_mul]
    omega
theorem heldIntsAt_any (o : Option Addr) (m c B k0 : Nat) (hm : m ≤ 1000000) (hk0 : k0 ≤ 1000000000) (w : World) (h : Ints w B o m c (fun i => ((k0 + i : Nat) : Int))) : Calls Try.prog 79 #[.slice o m c, .int .i64 (k0 : Int)] w fun e w' => e = .returned (.int .i64 ((k0 + m : Nat) : Int)) ∧ w = w' := by
  have H := Lib.hid h; clear h
  go_enter Try.func79, Try.ntmps79
  go_wp2
  go_loopw [1, 5] (fun t i wr => ∃ k : Nat, k ≤ m ∧ i = .int .i64 (k : Int) ∧ t = .int .i64 ((k0 + k : Nat) : Int) ∧ w = wr) (fun t i _ => m - (intOf i).toNat)
  case atStart => exact ⟨0, by omega, rfl, rfl, rfl⟩
  case round =>
    obtain ⟨k, hk, rfl, rfl, rfl⟩ := hrel
    by_cases hlt : k < m
    · obtain ⟨g, rfl, _, _, c0⟩ := H.out.cell hlt
      have d1 : decide (k < m) = true := by simp; omega
      obtain ⟨q, hq⟩ : ∃ q, q = k0 + k := ⟨_, rfl⟩
      rw [← hq] at c0 ⊢
      have d2 : ((q : Int) != (q : Int)) = false := by simp
      have hq2 : q ≤ 2000000000 := by omega
      have HQ := Lib.hid hq
      clear hq
      go_wp2
      go_roundw
      case rel => exact ⟨k + 1, by omega, by go_num, by rw [show k0 + (k + 1) = q + 1 by have := HQ.out; omega]; go_num, trivial⟩
      case measure => simp [intOf]; omega
    · have d1 : decide (k < m) = false := by simp; omega
      obtain rfl : k = m := by omega
      go_wp2
      go_ret
      exact ⟨rfl, rfl⟩
theorem markIntsAt_any (o : Option Addr) (m c B k0 : Nat) (f : Nat → Int) (hm : m ≤ 1000000) (hk0 : k0 ≤ 1000000000) (w : World) (h : Ints w B o m c f) : Calls Try.prog 78 #[.slice o m c, .int .i64 (k0 : Int)] w fun e w' => e = .returned (.int .i64 ((k0 + m : Nat) : Int)) ∧ Ints w' B o m c (fun i => ((k0 + i : Nat) : Int)) ∧ w.grownBy w' (Value.ownBlock (.slice o m c)) := by
  by_cases h0 : 0 < m
  · obtain ⟨g, F, rfl, _, hB, hnc, hcm, hb, hx, hg⟩ := own_form h h0
    rw [Nat.mul_one] at hb
    have HB0 := Lib.hid hb
    have HC := Lib.hid (And.intro hB (And.intro hnc hcm))
    have h1 : m ≤ c := hnc
    clear hx h hb hB hnc hcm
    go_enter Try.func78, Try.ntmps78
    go_wp2
    go_loopw [1, 5] (fun t i wr => ∃ k : Nat, k ≤ m ∧ i = .int .i64 (k : Int) ∧ t = .int .i64 ((k0 + k : Nat) : Int) ∧ Blk wr g c 3 (fun i => if i < k then .int .i64 ((k0 + i : Nat) : Int) else F i) ∧ w.grownBy wr (some g)) (fun t i _ => m - (intOf i).toNat)
    case atStart => exact ⟨0, by omega, rfl, rfl, HB0.out.ext (fun i _ => by simp), grown_refl _ _⟩
    case round =>
      obtain ⟨k, hk, rfl, rfl, hR, hgr⟩ := hrel
      by_cases hlt : k < m
      · have c0 : wr.cell? ⟨g, k, none⟩ = some (if k < k then .int .i64 ((k0 + k : Nat) : Int) else F k) := hR.cell (by omega)
        have f0 : wr.frozen? ⟨g, k, none⟩ = false := hR.free k
        have d1 : decide (k < m) = true := by simp; omega
        have R1 := Lib.hid hR; have G1 := Lib.hid hgr
        clear hR hgr
        obtain ⟨q, hq⟩ : ∃ q, q = k0 + k := ⟨_, rfl⟩
        rw [← hq] at c0 ⊢
        have hq2 : q ≤ 2000000000 := by omega
        have HQ := Lib.hid hq
        clear hq
        go_wp2
        go_roundw
        case rel =>
          refine ⟨k + 1, by omega, by go_num, by rw [show k0 + (k + 1) = q + 1 by have := HQ.out; omega]; go_num, (R1.out.set (by omega) _).ext (fun i hi => ?_), grown_set G1.out k _⟩
          simp only [upd]
          by_cases e : i = k
          · subst e; rw [if_pos rfl, if_pos (by omega), HQ.out]
          · rw [if_neg e]
            by_cases e2 : i < k
            · rw [if_pos e2, if_pos (by omega)]
            · rw [if_neg e2, if_neg (by omega)]
        case measure => simp [intOf]; omega
      · have d1 : decide (k < m) = false := by simp; omega
        have e0 : k = m := by omega
        have R1 := Lib.hid hR; have G1 := Lib.hid hgr
        clear hR hgr
        go_wp2
        go_ret
        exact ⟨by rw [e0]; rfl, Ints.ofBlk HC.out.1 HC.out.2.1 HC.out.2.2 R1.out (fun i hi => by rw [if_pos (by omega)]), G1.out⟩
  · obtain rfl : m = 0 := by omega
    have H := Lib.hid h; clear h
    have d1 : decide ((0 : Nat) < 0) = false := by simp
    go_enter Try.func78, Try.ntmps78
    go_wp2
    go_loopw [1, 5] (fun t i wr => i = .int .i64 0 ∧ t = .int .i64 (k0 : Int) ∧ w = wr) (fun t i _ => 0)
    case atStart => exact ⟨rfl, rfl, rfl⟩
    case round =>
      obtain ⟨rfl, rfl, rfl⟩ := hrel
      go_wp2
      go_ret
      exact ⟨rfl, H.out.congr (fun i hi => by omega), grown_refl _ _⟩
def markF (len : Nat → Nat) (i j : Nat) : Int := ((offL len i + j : Nat) : Int)
set_option maxHeartbeats 1000000 in
theorem heldGrid_any (o : Option Addr) (m c B : Nat) (ad : Nat → Option Addr × Nat) (len : Nat → Nat) (hm : m ≤ 1000) (hl : ∀ i, i < m → len i ≤ 1000) (w : World) (h : Grid w B o m c ad len (markF len)) : Calls Try.prog 35 #[.slice o m c, .int .i64 1] w fun e w' => e = .returned (.int .i64 ((offL len m : Nat) : Int)) ∧ w = w' := by
  have H := Lib.hid h; clear h
  have HL := Lib.hid hl; clear hl
  go_enter Try.func35, Try.ntmps35
  go_wp2
  go_loopw [1, 5] (fun t i wr => ∃ k : Nat, k ≤ m ∧ i = .int .i64 (k : Int) ∧ t = .int .i64 ((offL len k : Nat) : Int) ∧ w = wr) (fun t i _ => m - (intOf i).toNat)
  case atStart => exact ⟨0, by omega, rfl, rfl, rfl⟩
  case round =>
    obtain ⟨k, hk, rfl, rfl, rfl⟩ := hrel
    by_cases hlt : k < m
    · obtain ⟨g, rfl, _, _, c0⟩ := H.out.cell hlt
      have d1 : decide (k < m) = true := by simp; omega
      have hq1 := offL_le HL.out k (by omega)
      have hq3 := HL.out k hlt
      have hq2 : k * 1000 ≤ 1000000 := by omega
      have HR := Lib.hid (H.out.rows k hlt)
      have HQ := Lib.hid (show offL len (k + 1) = offL len k + len k from rfl)
      obtain ⟨q, hq⟩ : ∃ q, q = offL len k := ⟨_, rfl⟩
      have HRR := Lib.hid (fun w h => heldIntsAt_any (ad k).1 (len k) (ad k).2 B q (by omega) (by omega) w h)
      have HR2 := Lib.hid (show Ints w B (ad k).1 (len k) (ad k).2 (fun j => ((q + j : Nat) : Int)) by rw [hq]; exact HR.out)
      rw [← hq] at HQ ⊢
      obtain ⟨q2, hq2'⟩ : ∃ q2, q2 = q + len k := ⟨_, rfl⟩
      have d2 : decide ((q2 : Int) < 0) = false := by simp
      rw [← hq2'] at HRR HQ
      have hb : q2 ≤ 2000000 := by omega
      obtain ⟨a1, a2⟩ : ∃ p : Option Addr × Nat, p = ad k := ⟨_, rfl⟩
      have HA := Lib.hid a2
      clear hq hq2' hq1 hq3 a2
      go_wp2_with fail
      go_at_call 79
      refine (HRR.out _ HR2.out).mono ?_
      rintro e w' ⟨rfl, rfl⟩
      go_wp2
      go_roundw
      case rel => exact ⟨k + 1, by omega, by go_num, by rw [HQ.out], trivial⟩
      case measure => simp [intOf]; omega
    · have d1 : decide (k < m) = false := by simp; omega
      obtain rfl : k = m := by omega
      go_wp2
      go_ret
      exact ⟨rfl, rfl⟩
end Go.Proofs.Ytbfhfadfjgfmaaa
