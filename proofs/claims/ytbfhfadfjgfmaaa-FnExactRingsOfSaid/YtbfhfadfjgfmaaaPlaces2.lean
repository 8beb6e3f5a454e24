/- The reference's l1Own and l4Places. -/
import Derived.Test.YtbfhfadfjgfmaaaPlaces
import Derived.Test.YtbfhfadfjgfmaaaInv
import Derived.Test.YtbfhfadfjgfmaaaChance2
set_option linter.unusedVariables false
set_option linter.unusedSimpArgs false
set_option linter.unusedSectionVars false
namespace Go.Proofs.Ytbfhfadfjgfmaaa
open Go.RowKit
theorem wpList_append_ints {ops : Array Oper} {rest : List Oper} {o : Oper} {a : Act} {w : World} {Q : Exit → Act → World → Prop} (hgd : o.guard = none) {s x : Operand} {S : TypeId} (hS : Try.prog.underlying S = some (.slice 3))
    (ho : o.op = .call { callee := .builtin .append, args := #[s, x], argTypes := #[S, S] }) {B m c k cx : Nat} {a0 : Addr} {A : Option Addr} {f z : Nat → Int} (hs : a.eval s = .slice A m c) (hx : a.eval x = .slice (some a0) k cx)
    (hz : ∀ j, j < k → w.cell? (a0.add j) = some (.int .i64 (z j))) (hf : ∀ j, j < k → f (m + j) = z j) (hown : Ints w B A m c f) (hm : m + k ≤ 1000000) (hB : B ≤ w.heap.size)
    (h : ∀ A' c' w', Ints w' B A' (m + k) c' f → w.grownBy w' (Value.ownBlock (.slice A m c)) → (A' = none → A = none) → wpList Try.prog ops Q rest (a.put o.dst (.slice A' (m + k) c')) w') : wpList Try.prog ops Q (o :: rest) a w := by
  obtain ⟨i, hi, h0, h1, h2⟩ := info_get infoI
  refine wpList_append_own w hgd s x S ho B 3 i (.int .i64 0) 1 8 hS hi h0 h1 h2 rfl (by decide) _ m (intL f m) hs hown a0 k cx (intL z k) hx (by rw [intL_len, Nat.mul_one]) ?_ ?_ ?_ ?_ hB ?_
  · intro j u hu
    have hj : j < k := by
      by_cases q : j < k
      · exact q
      · rw [List.getElem?_eq_none (by rw [intL_len]; omega)] at hu; cases hu
    rw [intL_get z hj] at hu
    rw [hz j hj]
    exact hu
  · intro u hu
    simp only [intL, List.mem_map] at hu
    obtain ⟨j, _, rfl⟩ := hu
    rfl
  · unfold maxLen; omega
  · omega
  · intro v' w' hw' hg hn
    have e : intL f m ++ intL z k = intL f (m + k) := by
      apply List.ext_getElem?
      intro p
      by_cases q1 : p < m
      · rw [List.getElem?_append_left (by rw [intL_len]; exact q1), intL_get f q1, intL_get f (by omega)]
      · rw [List.getElem?_append_right (by rw [intL_len]; omega), intL_len]
        by_cases q2 : p < m + k
        · rw [intL_get z (by omega), intL_get f q2, ← hf (p - m) (by omega), show m + (p - m) = p by omega]
        · rw [List.getElem?_eq_none (by rw [intL_len]; omega), List.getElem?_eq_none (by rw [intL_len]; omega)]
    rw [e] at hw'
    have hw2 := hw'
    obtain ⟨o', c', rfl, hI⟩ := Ints.slice hw'
    refine h o' c' w' hI hg (fun e => ?_)
    subst e
    rcases hw2.2 with ⟨q, _⟩ | ⟨g, cap, cur, q, _⟩
    · simp only [Value.slice.injEq] at q
      have := (hn.1 (by rw [q.2.1, q.2.2])).1
      simp only [Value.slice.injEq] at this
      exact this.1
    · simp only [Value.slice.injEq] at q
      exact absurd q.1 (by simp)
theorem wpList_slice_hi {P : Program} {ops : Array Oper} {rest : List Oper} {o : Oper} {a : Act} {w : World} {Q : Exit → Act → World → Prop} (hw : Region.wanted o (yielded ops a.tmps) = true) {ty : TypeId} {p l : Operand} (ho : o.op = .slice ty p none (some l) none) {V L r : Value}
    (hx : a.eval p = V) (hy : a.eval l = L) (hr : ∀ w, (Instr.sliceAt ty V none (some L) none).run P w = .ok r w) (h : wpList P ops Q rest (a.put o.dst r) w) : wpList P ops Q (o :: rest) a w := by
  unfold wpList
  rw [if_pos hw]
  left
  unfold Oper.wp execOp
  simp only [ho, hx, hy, Sem.run_bind, Sem.run_pure, Option.map_some, Option.map_none, hr, Result.andThen_ok]
  exact h
theorem sizeI (w : World) : (sizeOf 3).run Try.prog w = .ok 1 w := by kernel_rfl
theorem elemI : Try.prog.elem 60 = 3 := by kernel_rfl
theorem slice_to (g i cp m : Nat) (h : m ≤ cp) (w : World) : (Instr.sliceAt 60 (.slice (some ⟨g, 0, none⟩) i cp) none (some (.int .i64 (m : Int))) none).run Try.prog w = .ok (.slice (some ⟨g, 0, none⟩) m cp) w := by
  rw [run_sliceAt_slice (P := Try.prog) w 60 _ _ _ _ (by kernel_rfl)]
  rw [run_slice_h (P := Try.prog) w 60 (some ⟨g, 0, none⟩) i cp (by kernel_rfl) .i64 (m : Int) (by omega) (by omega), elemI, sizeI]
  simp [sliced, addr_add]
theorem slice_from (g i cp m : Nat) (h : m ≤ cp) (h2 : m ≤ i) (w : World) : (Instr.sliceAt 60 (.slice (some ⟨g, 0, none⟩) i cp) (some (.int .i64 (m : Int))) none none).run Try.prog w = .ok (.slice (some ⟨g, if cp = m then 0 else m, none⟩) (i - m) (cp - m)) w := by
  rw [run_sliceAt_slice (P := Try.prog) w 60 _ _ _ _ (by kernel_rfl)]
  rw [run_slice_l (P := Try.prog) w 60 (some ⟨g, 0, none⟩) i cp (by kernel_rfl) .i64 (m : Int) (by omega) (by omega), elemI, sizeI]
  simp only [sliced, Result.andThen_ok, Int.toNat_natCast, Nat.mul_one, Option.map_some, addr_add, Nat.zero_add]
  by_cases e : cp = m
  · rw [if_pos e, if_pos e]
  · rw [if_neg e, if_neg e]
theorem insAt_lt {r : Nat → Int} {i p : Nat} (h : p < posF (plF r i) (r i) i) : plF r i p = plF r (i + 1) p := by
  simp only [plF, insAt]; rw [if_pos h]
theorem insAt_at {r : Nat → Int} {i : Nat} : plF r (i + 1) (posF (plF r i) (r i) i) = r i := by
  simp only [plF, insAt]; rw [if_neg (by omega), if_pos True.intro]
theorem insAt_gt {r : Nat → Int} {i p : Nat} (h : posF (plF r i) (r i) i ≤ p) (h2 : p < i) : plF r (i + 1) (p + 1) = plF r i p := by
  simp only [plF, insAt]; rw [if_neg (by omega), if_neg (by omega), if_pos (by omega)]; rfl
theorem l1Own_any (a0 : Addr) (n c : Nat) (f : Nat → Int) (hn : n ≤ 1000) (w : World) (h : ∀ j, j < n → w.cell? (a0.add j) = some (.int .i64 (f j))) : Calls Try.prog 102 #[.slice (some a0) n c] w fun e w' => ∃ o' c', e = .returned (.slice o' n c') ∧ Ints w' w.heap.size o' n c' f ∧ Below w.heap.size w w' := by
  have Z1 := Lib.hid (Ints.empty w w.heap.size f (Nat.le_refl _))
  have Z2 := Lib.hid (show ∀ j, j < n → (w.alloc (.cells #[] 3)).cell? (a0.add j) = some (.int .i64 (f j)) from fun j hj => by
    have := h j hj
    rw [Below.cell ((Below.refl _ _).alloc (Nat.le_refl _) _) (World.block_lt_of_cell? w _ this)]
    exact this)
  have Z3 := Lib.hid (show w.heap.size ≤ (w.alloc (.cells #[] 3)).heap.size by simp)
  have Z4 := Lib.hid (show 0 + n ≤ 1000000 by omega)
  clear h
  go_enter Try.func102, Try.ntmps102
  go_wp2_with (first | (((with_reducible apply (wpList_append_ints (f := f) (z := f))); (case hgd => rfl); (case ho => rfl); (case hs => rfl); (case hx => rfl); (case hS => exact Try.underlying60); (case hown => exact Z1.out); (case hz => exact Z2.out); (case hf => exact fun j hj => by rw [Nat.zero_add]); (case hm => exact Z4.out); (case hB => exact Z3.out); intro A2 c2 w2 hI2 hg2 hn2)) | fail)
  rw [Nat.zero_add] at hI2
  have HI2 := Lib.hid hI2; have HG2 := Lib.hid hg2
  clear hI2 hg2 hn2
  go_ret
  exact ⟨A2, c2, rfl, HI2.out, below_grown ((Below.refl _ _).alloc (Nat.le_refl _) _) HG2.out (fun g e => (World.ownsRow.lt Z1.out g e).1) (by simp)⟩
theorem all14 {s : Nat → Bool} (h : s 0 = true ∧ s 1 = true ∧ s 2 = true ∧ s 3 = true ∧ s 4 = true ∧ s 5 = true ∧ s 6 = true ∧ s 7 = true ∧ s 8 = true ∧ s 9 = true ∧ s 10 = true ∧ s 11 = true ∧ s 12 = true ∧ s 13 = true) : ∀ k, k < 14 → s k = true := by
  intro k hk
  obtain ⟨h0, h1, h2, h3, h4, h5, h6, h7, h8, h9, h10, h11, h12, h13⟩ := h
  match k, hk with
  | 0, _ => exact h0
  | 1, _ => exact h1
  | 2, _ => exact h2
  | 3, _ => exact h3
  | 4, _ => exact h4
  | 5, _ => exact h5
  | 6, _ => exact h6
  | 7, _ => exact h7
  | 8, _ => exact h8
  | 9, _ => exact h9
  | 10, _ => exact h10
  | 11, _ => exact h11
  | 12, _ => exact h12
  | 13, _ => exact h13
/-- What is open in the region of l4Places. -/
structure RG where
  a : Option Addr
  ca : Nat
  b : Nat
  d : Option Addr
  cd : Nat
  e : Option Addr
  ce : Nat
def RW (W0 : World) (m i : Nat) (v : Int) (f : Nat → Int) (s : Nat → Bool) (q : RG) (w : World) : Prop :=
  Grew W0 w ∧ (s 3 = true → s 9 = false → Ints w W0.heap.size q.a m q.ca f) ∧ (s 8 = true → s 9 = false → w.cell? ⟨q.b, 0, none⟩ = some (.int .i64 v)) ∧ (s 9 = true → s 13 = false → Ints w W0.heap.size q.d (m + 1) q.cd f) ∧ (s 13 = true → s 9 = true ∧ Ints w W0.heap.size q.e (m + 1 + (i - m)) q.ce f) ∧ (s 14 = true → ∀ k, k < 14 → s k = true)
namespace RW
variable {W0 w w' : World} {m i j : Nat} {v : Int} {f : Nat → Int} {s : Nat → Bool} {q : RG}
theorem init (q : RG) : RW W0 m i v f (fun _ => false) q W0.drew := ⟨⟨rfl, rfl, rfl, Nat.le_refl _, fun _ _ => rfl⟩, (by intro h; cases h), (by intro h; cases h), (by intro h; cases h), (by intro h; cases h), (by intro h; cases h)⟩
theorem no14 (h : RW W0 m i v f s q w) (hs : s j = false) (hj : j < 14) : s 14 = false := by
  cases e : s 14
  · rfl
  · have := h.2.2.2.2.2 e j hj
    rw [hs] at this; cases this
theorem keep (h : RW W0 m i v f s q w) (h14 : s 14 = false) (hj : j ≠ 14) (h3 : j ≠ 3) (h8 : j ≠ 8) (h9 : j ≠ 9) (h13 : j ≠ 13) : RW W0 m i v f (upd s j true) q w := by
  refine ⟨h.1, fun h1 h2 => h.2.1 ?_ ?_, fun h1 h2 => h.2.2.1 ?_ ?_, fun h1 h2 => h.2.2.2.1 ?_ ?_, fun h1 => ?_, fun h1 => ?_⟩
  · simpa [upd, h3.symm] using h1
  · simpa [upd, h9.symm] using h2
  · simpa [upd, h8.symm] using h1
  · simpa [upd, h9.symm] using h2
  · simpa [upd, h9.symm] using h1
  · simpa [upd, h13.symm] using h2
  · have := h.2.2.2.2.1 (by simpa [upd, h13.symm] using h1)
    exact ⟨by simp [upd, this.1], this.2⟩
  · have : s 14 = true := by simpa [upd, hj.symm] using h1
    rw [h14] at this; cases this
theorem fin14 (h : RW W0 m i v f s q w) (ha : ∀ k, k < 14 → s k = true) : RW W0 m i v f (upd s 14 true) q w := by
  refine ⟨h.1, fun h1 h2 => h.2.1 ?_ ?_, fun h1 h2 => h.2.2.1 ?_ ?_, fun h1 h2 => h.2.2.2.1 ?_ ?_, fun h1 => ?_, fun _ k hk => ?_⟩
  · simpa [upd] using h1
  · simpa [upd] using h2
  · simpa [upd] using h1
  · simpa [upd] using h2
  · simpa [upd] using h1
  · simpa [upd] using h2
  · have := h.2.2.2.2.1 (by simpa [upd] using h1)
    exact ⟨by simp [upd, this.1], this.2⟩
  · simp only [upd]; rw [if_neg (by omega)]; exact ha k hk
theorem own (h : RW W0 m i v f s q w) (h14 : s 14 = false) (hb : Below w.heap.size w w') {o : Option Addr} {c : Nat} (hI : Ints w' w.heap.size o m c f) : RW W0 m i v f (upd s 3 true) { q with a := o, ca := c } w' :=
  ⟨h.1.below.trans (hb.mono h.1.below.size), fun _ _ => hI.base h.1.below.size, fun h1 h2 => by
    have := h.2.2.1 (by simpa [upd] using h1) (by simpa [upd] using h2)
    exact (Below.cell hb (World.block_lt_of_cell? w _ this)).trans this, fun h1 h2 => (h.2.2.2.1 (by simpa [upd] using h1) (by simpa [upd] using h2)).below hb, fun h1 => by
    have := h.2.2.2.2.1 (by simpa [upd] using h1)
    exact ⟨by simpa [upd] using this.1, this.2.below hb⟩, fun h1 => by have : s 14 = true := (by simpa [upd] using h1); rw [h14] at this; cases this⟩
theorem box (h : RW W0 m i v f s q w) (h14 : s 14 = false) : RW W0 m i v f (upd s 8 true) { q with b := w.heap.size } (w.alloc (.cells #[.int .i64 v] 3)) := by
  have hb : Below w.heap.size w (w.alloc (.cells #[.int .i64 v] 3)) := (Below.refl _ _).alloc (Nat.le_refl _) _
  exact ⟨h.1.below.trans (hb.mono h.1.below.size), fun h1 h2 => (h.2.1 (by simpa [upd] using h1) (by simpa [upd] using h2)).below hb, fun _ _ => by simp, fun h1 h2 => (h.2.2.2.1 (by simpa [upd] using h1) (by simpa [upd] using h2)).below hb, fun h1 => by
    have := h.2.2.2.2.1 (by simpa [upd] using h1)
    exact ⟨by simpa [upd] using this.1, this.2.below hb⟩, fun h1 => by have : s 14 = true := (by simpa [upd] using h1); rw [h14] at this; cases this⟩
theorem app9 (h : RW W0 m i v f s q w) (h14 : s 14 = false) (hs : s 9 = false) {o : Option Addr} {c : Nat} (hI : Ints w' W0.heap.size o (m + 1) c f) (hA : Ints w W0.heap.size q.a m q.ca f) (hg : w.grownBy w' (Value.ownBlock (.slice q.a m q.ca))) : RW W0 m i v f (upd s 9 true) { q with d := o, cd := c } w' :=
  ⟨below_grown h.1.below hg (fun g e => (World.ownsRow.lt hA g e).1) h.1.below.size, fun _ h2 => by simp [upd] at h2, fun _ h2 => by simp [upd] at h2, fun _ _ => hI, (fun h1 => by
    have := (h.2.2.2.2.1 (by simpa [upd] using h1)).1
    rw [hs] at this
    cases this), fun h1 => by have : s 14 = true := (by simpa [upd] using h1); rw [h14] at this; cases this⟩
theorem app13 (h : RW W0 m i v f s q w) (h14 : s 14 = false) (h9 : s 9 = true) (hs : s 13 = false) {o : Option Addr} {c : Nat} (hI : Ints w' W0.heap.size o (m + 1 + (i - m)) c f) (hA : Ints w W0.heap.size q.d (m + 1) q.cd f) (hg : w.grownBy w' (Value.ownBlock (.slice q.d (m + 1) q.cd))) : RW W0 m i v f (upd s 13 true) { q with e := o, ce := c } w' :=
  ⟨below_grown h.1.below hg (fun g e => (World.ownsRow.lt hA g e).1) h.1.below.size, fun _ h2 => by simp [upd, h9] at h2, fun _ h2 => by simp [upd, h9] at h2, fun _ h2 => by simp [upd] at h2, fun _ => ⟨by simpa [upd] using h9, hI⟩, fun h1 => by have : s 14 = true := (by simpa [upd] using h1); rw [h14] at this; cases this⟩
end RW
set_option maxRecDepth 100000 in
set_option maxHeartbeats 4000000 in
theorem l4Places_any (gr N : Nat) (r : Nat → Int) (hN : N ≤ 12) (w : World) (h : Blk w gr N 3 (I r)) : Calls Try.prog 91 #[.slice (some ⟨gr, 0, none⟩) N N] w fun e w' => ∃ g cp, e = .returned (.slice (some ⟨g, 0, none⟩) N cp) ∧ Ints w' w.heap.size (some ⟨g, 0, none⟩) N cp (plF r N) ∧ Below w.heap.size w w' := by
  have H := Lib.hid h; clear h
  have Z1 := Lib.hid (Ints.empty w w.heap.size (plF r 0) (Nat.le_refl _))
  go_enter Try.func91, Try.ntmps91
  go_wp2
  go_loopw [3, 4] (fun v i wr => ∃ k : Nat, k ≤ N ∧ i = .int .i64 (k : Int) ∧ (∃ g cp, v = .slice (some ⟨g, 0, none⟩) k cp ∧ k ≤ cp ∧ Ints wr w.heap.size (some ⟨g, 0, none⟩) k cp (plF r k)) ∧ Below w.heap.size w wr) (fun v i _ => N - (intOf i).toNat)
  case atStart => exact ⟨0, by omega, rfl, ⟨_, 0, rfl, Nat.le_refl _, Z1.out⟩, (Below.refl _ _).alloc (Nat.le_refl _) _⟩
  case round =>
    obtain ⟨i, hi, rfl, ⟨g, cp, rfl, hcp, hI⟩, hb⟩ := hrel
    have HI := Lib.hid hI; have HB := Lib.hid hb
    clear hI hb Z1
    by_cases hlt : i < N
    · have d0 : decide (i < N) = true := by simp; omega
      obtain ⟨wo, rfl⟩ : ∃ wo : World, wo = wr := ⟨_, rfl⟩
      go_wp2
      go_loopw [5] (fun t wr => ∃ j : Nat, j ≤ i ∧ t = .int .i64 (j : Int) ∧ Hid (posF (plF r i) (r i) i = posF (plF r i) (r i) j) ∧ Ints wr w.heap.size (some ⟨g, 0, none⟩) i cp (plF r i) ∧ Below w.heap.size w wr) (fun t _ => (intOf t).toNat)
      case atStart => exact ⟨i, Nat.le_refl _, rfl, rfl, HI.out, HB.out⟩
      case round =>
        obtain ⟨j, hj, rfl, HP, hI, hb⟩ := hrel
        clear HI HB
        have HI := Lib.hid hI; have HB := Lib.hid hb
        clear hI hb
        cases hq : (match j with | 0 => false | q + 1 => decide (plF r i q < r i))
        · have HM0 := Lib.hid (show posF (plF r i) (r i) i = j by
            rw [HP.out]
            cases j with
            | zero => rfl
            | succ q => simp only [posF]; rw [if_neg (by simpa using hq)])
          have mi : j ≤ i := hj
          have HLE := Lib.hid (show j ≤ cp by omega)
          have HLE2 := Lib.hid mi
          have HM := Lib.hid (show j ≤ 1000 by omega)
          have HM1 := Lib.hid (show j + 1 ≤ 1000000 by omega)
          have HM2 := Lib.hid (show j + 1 + (i - j) ≤ 1000000 by omega)
          have HLT := Lib.hid (fun p (hp : p < j) => show plF r i p = plF r (i + 1) p from insAt_lt (HM0.out ▸ hp))
          have HAT := Lib.hid (show plF r (i + 1) j = r i by have := insAt_at (r := r) (i := i); rw [HM0.out] at this; exact this)
          have HGT := Lib.hid (fun p (h1 : j ≤ p) (h2 : p < i) => show plF r (i + 1) (p + 1) = plF r i p from insAt_gt (HM0.out ▸ h1) h2)
          have HQ := Lib.hid hq
          have HIL := Lib.hid (show j + 1 + (i - j) = i + 1 by omega)
          clear hq
          by_cases hj0 : 0 < j
          · obtain ⟨q, hq⟩ : ∃ q : Nat, (j : Int) - 1 = (q : Int) := ⟨j - 1, by omega⟩
            have hc : ¬ plF r i q < r i := by
              have := HQ.out
              obtain rfl : j = q + 1 := by omega
              simpa using this
            have HC := Lib.hid hc
            have d1 : decide (plF r i q < r i) = false := by simp [hc]
            have d3 : decide ((0 : Int) < (j : Int)) = true := by simp; omega
            obtain ⟨g2, e2, _, _, c1⟩ := HI.out.cell (k := q) (by omega)
            obtain rfl : g = g2 := by injection e2 with e2; injection e2
            clear e2 hc
            have c2 : wr.cell? ⟨gr, i, none⟩ = some (.int .i64 (r i)) := (H.out.below HB.out H.out.lt).cell hlt
            go_wp2
            go_quiet (fail)
            clear hq
            go_wp2
            obtain ⟨m, rfl⟩ : ∃ m, m = j := ⟨_, rfl⟩
            have I0 := Lib.hid (show Ints (wr.drewN nq) w.heap.size (some ⟨g, 0, none⟩) i cp (plF r i) from HI.out.below ⟨rfl, rfl, rfl, Nat.le_refl _, fun _ _ => rfl⟩)
            have R0 := Lib.hid (show Blk (wr.drewN nq) gr N 3 (I r) from (H.out.below HB.out H.out.lt).drewN nq)
            have HB0 := Lib.hid (below_drewN HB.out nq)
            clear HI HB c1 c2
            obtain ⟨off, hoff⟩ : ∃ off, off = (if cp = m then 0 else m) := ⟨_, rfl⟩
            have HSF := Lib.hid (fun w => show (Instr.sliceAt 60 (.slice (some ⟨g, 0, none⟩) i cp) (some (.int .i64 (m : Int))) none none).run Try.prog w = .ok (.slice (some ⟨g, off, none⟩) (i - m) (cp - m)) w by rw [hoff]; exact slice_from g i cp m HLE.out HLE2.out w)
            have HOF := Lib.hid (fun (h : m < i) => show off = m by rw [hoff, if_neg (by omega)])
            clear hoff
            generalize hW0 : wr.drewN nq = W0 at I0 R0 HB0 ⊢
            clear hW0
            have CO := Lib.hid (fun (w' : World) (hG : Grew W0 w') (p : Nat) (hp : p < i) => show w'.cell? ⟨g, p, none⟩ = some (.int .i64 (plF r i p)) by
              obtain ⟨g2, e2, _, _, c1⟩ := (I0.out.below hG.below).cell hp
              obtain rfl : g = g2 := by injection e2 with e2; injection e2
              exact c1)
            have CR := Lib.hid (fun (w' : World) (hG : Grew W0 w') => show w'.cell? ⟨gr, i, none⟩ = some (.int .i64 (r i)) from (R0.out.below hG.below R0.out.lt).cell hlt)
            refine wp_region_steps (by kernel_rfl) (by kernel_rfl) (fun q : RG => [(0, 31, .slice (some ⟨g, 0, none⟩) i cp), (1, 32, .int .i64 (m : Int)), (2, 33, .slice (some ⟨g, 0, none⟩) m cp), (3, 34, .slice q.a m q.ca), (4, 35, .slice (some ⟨gr, 0, none⟩) N N), (5, 36, .int .i64 (i : Int)), (6, 37, .pointer (some ⟨gr, i, none⟩)), (7, 38, .int .i64 (r i)), (8, 39, .slice (some ⟨q.b, 0, none⟩) 1 1), (9, 40, .slice q.d (m + 1) q.cd), (10, 41, .slice (some ⟨g, 0, none⟩) i cp), (11, 42, .int .i64 (m : Int)), (12, 43, .slice (some ⟨g, off, none⟩) (i - m) (cp - m)), (13, 44, .slice q.e (m + 1 + (i - m)) q.ce), (14, 3, .slice q.e (m + 1 + (i - m)) q.ce)]) (RW W0 m i (r i) (plF r (i + 1))) ⟨none, 0, 0, none, 0, none, 0⟩ (RW.init _) ?_ ?_
            · refine (And.intro (fun s q wv hW hs hp => ?_) (And.intro (fun s q wv hW hs hp => ?_) (And.intro (fun s q wv hW hs hp => ?_) (And.intro (fun s q wv hW hs hp => ?_) (And.intro (fun s q wv hW hs hp => ?_) (And.intro (fun s q wv hW hs hp => ?_) (And.intro (fun s q wv hW hs hp => ?_) (And.intro (fun s q wv hW hs hp => ?_) (And.intro (fun s q wv hW hs hp => ?_) (And.intro (fun s q wv hW hs hp => ?_) (And.intro (fun s q wv hW hs hp => ?_) (And.intro (fun s q wv hW hs hp => ?_) (And.intro (fun s q wv hW hs hp => ?_) (And.intro (fun s q wv hW hs hp => ?_) (And.intro (fun s q wv hW hs hp => ?_) True.intro)))))))))))))))
              · have S14 : s 14 = false := hW.no14 hs (by decide); (try simp [waits, Region.binds, hs] at hp); (first | simp only [frm, List.foldl, Act.put, List.setIfInBounds_toArray, List.set_cons_succ, List.set_cons_zero, hs, hp, S14, cond_true, cond_false] | simp only [frm, List.foldl, Act.put, List.setIfInBounds_toArray, List.set_cons_succ, List.set_cons_zero, hs, S14, cond_true, cond_false]); have HW := Lib.hid hW; clear hW; go_wp2; refine ⟨q, by (first | simp [frm, Act.put, upd, hs, hp, S14] | simp [frm, Act.put, upd, hs, S14]), HW.out.keep S14 (by decide) (by decide) (by decide) (by decide) (by decide)⟩
              · have S14 : s 14 = false := hW.no14 hs (by decide); (try simp [waits, Region.binds, hs] at hp); (first | simp only [frm, List.foldl, Act.put, List.setIfInBounds_toArray, List.set_cons_succ, List.set_cons_zero, hs, hp, S14, cond_true, cond_false] | simp only [frm, List.foldl, Act.put, List.setIfInBounds_toArray, List.set_cons_succ, List.set_cons_zero, hs, S14, cond_true, cond_false]); have HW := Lib.hid hW; clear hW; go_wp2; refine ⟨q, by (first | simp [frm, Act.put, upd, hs, hp, S14] | simp [frm, Act.put, upd, hs, S14]), HW.out.keep S14 (by decide) (by decide) (by decide) (by decide) (by decide)⟩
              · have S14 : s 14 = false := hW.no14 hs (by decide); (try simp [waits, Region.binds, hs] at hp); (first | simp only [frm, List.foldl, Act.put, List.setIfInBounds_toArray, List.set_cons_succ, List.set_cons_zero, hs, hp, S14, cond_true, cond_false] | simp only [frm, List.foldl, Act.put, List.setIfInBounds_toArray, List.set_cons_succ, List.set_cons_zero, hs, S14, cond_true, cond_false]); have HW := Lib.hid hW; clear hW; ((with_reducible apply wpList_slice_hi); (case hw => rfl); (case ho => rfl); (case hx => rfl); (case hy => rfl); (case hr => exact fun w => slice_to g i cp m HLE.out w)); go_wp2; refine ⟨q, by (first | simp [frm, Act.put, upd, hs, hp, S14] | simp [frm, Act.put, upd, hs, S14]), HW.out.keep S14 (by decide) (by decide) (by decide) (by decide) (by decide)⟩
              · have S14 : s 14 = false := hW.no14 hs (by decide); (try simp [waits, Region.binds, hs] at hp); (first | simp only [frm, List.foldl, Act.put, List.setIfInBounds_toArray, List.set_cons_succ, List.set_cons_zero, hs, hp, S14, cond_true, cond_false] | simp only [frm, List.foldl, Act.put, List.setIfInBounds_toArray, List.set_cons_succ, List.set_cons_zero, hs, S14, cond_true, cond_false]); have HW := Lib.hid hW; clear hW; go_wp2_with fail; go_at_call 102; refine (l1Own_any ⟨g, 0, none⟩ m cp (plF r i) HM.out _ (fun j hj => by rw [addr_add, Nat.zero_add]; exact CO.out _ HW.out.1 j (by have := HLE2.out; omega))).mono ?_; rintro e' w2 ⟨o2, c2, rfl, hI2, hb2⟩; have HI2 := Lib.hid hI2; have HB2 := Lib.hid hb2; clear hI2 hb2; go_wp2; refine ⟨{ q with a := o2, ca := c2 }, by (first | simp [frm, Act.put, upd, hs, hp, S14] | simp [frm, Act.put, upd, hs, S14]), HW.out.own S14 HB2.out (HI2.out.congr (fun p hp' => HLT.out p hp'))⟩
              · have S14 : s 14 = false := hW.no14 hs (by decide); (try simp [waits, Region.binds, hs] at hp); (first | simp only [frm, List.foldl, Act.put, List.setIfInBounds_toArray, List.set_cons_succ, List.set_cons_zero, hs, hp, S14, cond_true, cond_false] | simp only [frm, List.foldl, Act.put, List.setIfInBounds_toArray, List.set_cons_succ, List.set_cons_zero, hs, S14, cond_true, cond_false]); have HW := Lib.hid hW; clear hW; go_wp2; refine ⟨q, by (first | simp [frm, Act.put, upd, hs, hp, S14] | simp [frm, Act.put, upd, hs, S14]), HW.out.keep S14 (by decide) (by decide) (by decide) (by decide) (by decide)⟩
              · have S14 : s 14 = false := hW.no14 hs (by decide); (try simp [waits, Region.binds, hs] at hp); (first | simp only [frm, List.foldl, Act.put, List.setIfInBounds_toArray, List.set_cons_succ, List.set_cons_zero, hs, hp, S14, cond_true, cond_false] | simp only [frm, List.foldl, Act.put, List.setIfInBounds_toArray, List.set_cons_succ, List.set_cons_zero, hs, S14, cond_true, cond_false]); have HW := Lib.hid hW; clear hW; go_wp2; refine ⟨q, by (first | simp [frm, Act.put, upd, hs, hp, S14] | simp [frm, Act.put, upd, hs, S14]), HW.out.keep S14 (by decide) (by decide) (by decide) (by decide) (by decide)⟩
              · have S14 : s 14 = false := hW.no14 hs (by decide); (try simp [waits, Region.binds, hs] at hp); (first | simp only [frm, List.foldl, Act.put, List.setIfInBounds_toArray, List.set_cons_succ, List.set_cons_zero, hs, hp, S14, cond_true, cond_false] | simp only [frm, List.foldl, Act.put, List.setIfInBounds_toArray, List.set_cons_succ, List.set_cons_zero, hs, S14, cond_true, cond_false]); have HW := Lib.hid hW; clear hW; go_wp2; refine ⟨q, by (first | simp [frm, Act.put, upd, hs, hp, S14] | simp [frm, Act.put, upd, hs, S14]), HW.out.keep S14 (by decide) (by decide) (by decide) (by decide) (by decide)⟩
              · have S14 : s 14 = false := hW.no14 hs (by decide); (try simp [waits, Region.binds, hs] at hp); (first | simp only [frm, List.foldl, Act.put, List.setIfInBounds_toArray, List.set_cons_succ, List.set_cons_zero, hs, hp, S14, cond_true, cond_false] | simp only [frm, List.foldl, Act.put, List.setIfInBounds_toArray, List.set_cons_succ, List.set_cons_zero, hs, S14, cond_true, cond_false]); have HW := Lib.hid hW; clear hW; have c0 := CR.out _ HW.out.1; go_wp2; refine ⟨q, by (first | simp [frm, Act.put, upd, hs, hp, S14] | simp [frm, Act.put, upd, hs, S14]), HW.out.keep S14 (by decide) (by decide) (by decide) (by decide) (by decide)⟩
              · have S14 : s 14 = false := hW.no14 hs (by decide); (try simp [waits, Region.binds, hs] at hp); (first | simp only [frm, List.foldl, Act.put, List.setIfInBounds_toArray, List.set_cons_succ, List.set_cons_zero, hs, hp, S14, cond_true, cond_false] | simp only [frm, List.foldl, Act.put, List.setIfInBounds_toArray, List.set_cons_succ, List.set_cons_zero, hs, S14, cond_true, cond_false]); have HW := Lib.hid hW; clear hW; go_wp2; refine ⟨{ q with b := wv.heap.size }, by (first | simp [frm, Act.put, upd, hs, hp, S14] | simp [frm, Act.put, upd, hs, S14]), HW.out.box S14⟩
              · have S14 : s 14 = false := hW.no14 hs (by decide); (try simp [waits, Region.binds, hs] at hp); (first | simp only [frm, List.foldl, Act.put, List.setIfInBounds_toArray, List.set_cons_succ, List.set_cons_zero, hs, hp, S14, cond_true, cond_false] | simp only [frm, List.foldl, Act.put, List.setIfInBounds_toArray, List.set_cons_succ, List.set_cons_zero, hs, S14, cond_true, cond_false]); have HW := Lib.hid hW; clear hW; have S3 : s 3 = true := (by simp [hp]); have S8 : s 8 = true := (by simp [hp]); ((with_reducible apply (wpList_append_ints (f := plF r (i + 1)) (z := fun _ => r i))); (case hgd => rfl); (case ho => rfl); (case hs => rfl); (case hx => rfl); (case hS => exact Try.underlying60); (case hown => exact HW.out.2.1 S3 hs); (case hz => exact fun j hj => by rw [addr_add, show 0 + j = 0 by omega]; exact HW.out.2.2.1 S8 hs); (case hf => exact fun j hj => by rw [show m + j = m by omega]; exact HAT.out); (case hm => exact HM1.out); (case hB => exact HW.out.1.below.size); intro A2 c2 w2 hI2 hg2 hn2); have HI2 := Lib.hid hI2; have HG2 := Lib.hid hg2; clear hI2 hg2 hn2; go_wp2; refine ⟨{ q with d := A2, cd := c2 }, by (first | simp [frm, Act.put, upd, hs, hp, S14] | simp [frm, Act.put, upd, hs, S14]), HW.out.app9 S14 hs HI2.out (HW.out.2.1 S3 hs) HG2.out⟩
              · have S14 : s 14 = false := hW.no14 hs (by decide); (try simp [waits, Region.binds, hs] at hp); (first | simp only [frm, List.foldl, Act.put, List.setIfInBounds_toArray, List.set_cons_succ, List.set_cons_zero, hs, hp, S14, cond_true, cond_false] | simp only [frm, List.foldl, Act.put, List.setIfInBounds_toArray, List.set_cons_succ, List.set_cons_zero, hs, S14, cond_true, cond_false]); have HW := Lib.hid hW; clear hW; go_wp2; refine ⟨q, by (first | simp [frm, Act.put, upd, hs, hp, S14] | simp [frm, Act.put, upd, hs, S14]), HW.out.keep S14 (by decide) (by decide) (by decide) (by decide) (by decide)⟩
              · have S14 : s 14 = false := hW.no14 hs (by decide); (try simp [waits, Region.binds, hs] at hp); (first | simp only [frm, List.foldl, Act.put, List.setIfInBounds_toArray, List.set_cons_succ, List.set_cons_zero, hs, hp, S14, cond_true, cond_false] | simp only [frm, List.foldl, Act.put, List.setIfInBounds_toArray, List.set_cons_succ, List.set_cons_zero, hs, S14, cond_true, cond_false]); have HW := Lib.hid hW; clear hW; go_wp2; refine ⟨q, by (first | simp [frm, Act.put, upd, hs, hp, S14] | simp [frm, Act.put, upd, hs, S14]), HW.out.keep S14 (by decide) (by decide) (by decide) (by decide) (by decide)⟩
              · have S14 : s 14 = false := hW.no14 hs (by decide); (try simp [waits, Region.binds, hs] at hp); (first | simp only [frm, List.foldl, Act.put, List.setIfInBounds_toArray, List.set_cons_succ, List.set_cons_zero, hs, hp, S14, cond_true, cond_false] | simp only [frm, List.foldl, Act.put, List.setIfInBounds_toArray, List.set_cons_succ, List.set_cons_zero, hs, S14, cond_true, cond_false]); have HW := Lib.hid hW; clear hW; ((with_reducible apply wpList_slice_lo); (case hw => rfl); (case ho => rfl); (case hx => rfl); (case hy => rfl); (case hr => exact HSF.out)); go_wp2; refine ⟨q, by (first | simp [frm, Act.put, upd, hs, hp, S14] | simp [frm, Act.put, upd, hs, S14]), HW.out.keep S14 (by decide) (by decide) (by decide) (by decide) (by decide)⟩
              · have S14 : s 14 = false := hW.no14 hs (by decide); (try simp [waits, Region.binds, hs] at hp); (first | simp only [frm, List.foldl, Act.put, List.setIfInBounds_toArray, List.set_cons_succ, List.set_cons_zero, hs, hp, S14, cond_true, cond_false] | simp only [frm, List.foldl, Act.put, List.setIfInBounds_toArray, List.set_cons_succ, List.set_cons_zero, hs, S14, cond_true, cond_false]); have HW := Lib.hid hW; clear hW; have S9 : s 9 = true := (by simp [hp]); ((with_reducible apply (wpList_append_ints (f := plF r (i + 1)) (z := fun j => plF r i (m + j)))); (case hgd => rfl); (case ho => rfl); (case hs => rfl); (case hx => rfl); (case hS => exact Try.underlying60); (case hown => exact HW.out.2.2.2.1 S9 hs); (case hz => exact fun j hj => by have := HLE2.out; rw [HOF.out (by omega), addr_add]; exact CO.out _ HW.out.1 (m + j) (by omega)); (case hf => exact fun j hj => by rw [show m + 1 + j = (m + j) + 1 by omega]; exact HGT.out (m + j) (by omega) (by omega)); (case hm => exact HM2.out); (case hB => exact HW.out.1.below.size); intro A2 c2 w2 hI2 hg2 hn2); have HI2 := Lib.hid hI2; have HG2 := Lib.hid hg2; clear hI2 hg2 hn2; go_wp2; refine ⟨{ q with e := A2, ce := c2 }, by (first | simp [frm, Act.put, upd, hs, hp, S14] | simp [frm, Act.put, upd, hs, S14]), HW.out.app13 S14 S9 hs HI2.out (HW.out.2.2.2.1 S9 hs) HG2.out⟩
              · (try simp [waits, Region.binds, hs] at hp); (first | simp only [frm, List.foldl, Act.put, List.setIfInBounds_toArray, List.set_cons_succ, List.set_cons_zero, hs, hp, cond_true, cond_false] | simp only [frm, List.foldl, Act.put, List.setIfInBounds_toArray, List.set_cons_succ, List.set_cons_zero, hs, cond_true, cond_false]); have HW := Lib.hid hW; clear hW; go_wp2; refine ⟨q, by (first | simp [frm, Act.put, upd, hs, hp] | simp [frm, Act.put, upd, hs]), HW.out.fin14 (all14 (by simp [hp]))⟩
            · intro s q wg hW hall
              have hs := fun i (hi : i < 15) => hall i (by simpa using hi)
              simp only [frm, List.foldl, Act.put, List.setIfInBounds_toArray, List.set_cons_succ, List.set_cons_zero, hs 0 (by omega), hs 1 (by omega), hs 2 (by omega), hs 3 (by omega), hs 4 (by omega), hs 5 (by omega), hs 6 (by omega), hs 7 (by omega), hs 8 (by omega), hs 9 (by omega), hs 10 (by omega), hs 11 (by omega), hs 12 (by omega), hs 13 (by omega), hs 14 (by omega), cond_true]
              have hI3 := (hW.2.2.2.2.1 (hs 13 (by omega))).2
              have HB3 := Lib.hid (HB0.out.trans (hW.1.below.mono HB0.out.size))
              clear hW hs hall
              obtain ⟨qa, qca, qb, qd, qcd, qe, qce⟩ := q
              simp only at hI3 ⊢
              rw [HIL.out] at hI3 ⊢
              obtain ⟨g3, rfl, _, _, _⟩ := hI3.cell (k := 0) (by omega)
              have HI3 := Lib.hid (hI3.base HB0.out.size)
              have HC3 := Lib.hid (show i + 1 ≤ qce by
                obtain ⟨_, _, _, _, _, h5, _⟩ := own_form hI3 (by omega)
                exact h5)
              clear hI3
              go_wp2
              go_roundw
              case rel => exact ⟨i + 1, by omega, by go_num, ⟨g3, qce, rfl, HC3.out, HI3.out⟩, HB3.out⟩
              case measure => simp [intOf]; omega
          · have d3 : decide ((0 : Int) < (j : Int)) = false := by simp; omega
            go_wp2
            go_quiet (fail)
            go_wp2
            obtain ⟨m, rfl⟩ : ∃ m, m = j := ⟨_, rfl⟩
            have I0 := Lib.hid (show Ints (wr.drewN nq) w.heap.size (some ⟨g, 0, none⟩) i cp (plF r i) from HI.out.below ⟨rfl, rfl, rfl, Nat.le_refl _, fun _ _ => rfl⟩)
            have R0 := Lib.hid (show Blk (wr.drewN nq) gr N 3 (I r) from (H.out.below HB.out H.out.lt).drewN nq)
            have HB0 := Lib.hid (below_drewN HB.out nq)
            clear HI HB
            obtain ⟨off, hoff⟩ : ∃ off, off = (if cp = m then 0 else m) := ⟨_, rfl⟩
            have HSF := Lib.hid (fun w => show (Instr.sliceAt 60 (.slice (some ⟨g, 0, none⟩) i cp) (some (.int .i64 (m : Int))) none none).run Try.prog w = .ok (.slice (some ⟨g, off, none⟩) (i - m) (cp - m)) w by rw [hoff]; exact slice_from g i cp m HLE.out HLE2.out w)
            have HOF := Lib.hid (fun (h : m < i) => show off = m by rw [hoff, if_neg (by omega)])
            clear hoff
            generalize hW0 : wr.drewN nq = W0 at I0 R0 HB0 ⊢
            clear hW0
            have CO := Lib.hid (fun (w' : World) (hG : Grew W0 w') (p : Nat) (hp : p < i) => show w'.cell? ⟨g, p, none⟩ = some (.int .i64 (plF r i p)) by
              obtain ⟨g2, e2, _, _, c1⟩ := (I0.out.below hG.below).cell hp
              obtain rfl : g = g2 := by injection e2 with e2; injection e2
              exact c1)
            have CR := Lib.hid (fun (w' : World) (hG : Grew W0 w') => show w'.cell? ⟨gr, i, none⟩ = some (.int .i64 (r i)) from (R0.out.below hG.below R0.out.lt).cell hlt)
            refine wp_region_steps (by kernel_rfl) (by kernel_rfl) (fun q : RG => [(0, 31, .slice (some ⟨g, 0, none⟩) i cp), (1, 32, .int .i64 (m : Int)), (2, 33, .slice (some ⟨g, 0, none⟩) m cp), (3, 34, .slice q.a m q.ca), (4, 35, .slice (some ⟨gr, 0, none⟩) N N), (5, 36, .int .i64 (i : Int)), (6, 37, .pointer (some ⟨gr, i, none⟩)), (7, 38, .int .i64 (r i)), (8, 39, .slice (some ⟨q.b, 0, none⟩) 1 1), (9, 40, .slice q.d (m + 1) q.cd), (10, 41, .slice (some ⟨g, 0, none⟩) i cp), (11, 42, .int .i64 (m : Int)), (12, 43, .slice (some ⟨g, off, none⟩) (i - m) (cp - m)), (13, 44, .slice q.e (m + 1 + (i - m)) q.ce), (14, 3, .slice q.e (m + 1 + (i - m)) q.ce)]) (RW W0 m i (r i) (plF r (i + 1))) ⟨none, 0, 0, none, 0, none, 0⟩ (RW.init _) ?_ ?_
            · refine (And.intro (fun s q wv hW hs hp => ?_) (And.intro (fun s q wv hW hs hp => ?_) (And.intro (fun s q wv hW hs hp => ?_) (And.intro (fun s q wv hW hs hp => ?_) (And.intro (fun s q wv hW hs hp => ?_) (And.intro (fun s q wv hW hs hp => ?_) (And.intro (fun s q wv hW hs hp => ?_) (And.intro (fun s q wv hW hs hp => ?_) (And.intro (fun s q wv hW hs hp => ?_) (And.intro (fun s q wv hW hs hp => ?_) (And.intro (fun s q wv hW hs hp => ?_) (And.intro (fun s q wv hW hs hp => ?_) (And.intro (fun s q wv hW hs hp => ?_) (And.intro (fun s q wv hW hs hp => ?_) (And.intro (fun s q wv hW hs hp => ?_) True.intro)))))))))))))))
              · have S14 : s 14 = false := hW.no14 hs (by decide); (try simp [waits, Region.binds, hs] at hp); (first | simp only [frm, List.foldl, Act.put, List.setIfInBounds_toArray, List.set_cons_succ, List.set_cons_zero, hs, hp, S14, cond_true, cond_false] | simp only [frm, List.foldl, Act.put, List.setIfInBounds_toArray, List.set_cons_succ, List.set_cons_zero, hs, S14, cond_true, cond_false]); have HW := Lib.hid hW; clear hW; go_wp2; refine ⟨q, by (first | simp [frm, Act.put, upd, hs, hp, S14] | simp [frm, Act.put, upd, hs, S14]), HW.out.keep S14 (by decide) (by decide) (by decide) (by decide) (by decide)⟩
              · have S14 : s 14 = false := hW.no14 hs (by decide); (try simp [waits, Region.binds, hs] at hp); (first | simp only [frm, List.foldl, Act.put, List.setIfInBounds_toArray, List.set_cons_succ, List.set_cons_zero, hs, hp, S14, cond_true, cond_false] | simp only [frm, List.foldl, Act.put, List.setIfInBounds_toArray, List.set_cons_succ, List.set_cons_zero, hs, S14, cond_true, cond_false]); have HW := Lib.hid hW; clear hW; go_wp2; refine ⟨q, by (first | simp [frm, Act.put, upd, hs, hp, S14] | simp [frm, Act.put, upd, hs, S14]), HW.out.keep S14 (by decide) (by decide) (by decide) (by decide) (by decide)⟩
              · have S14 : s 14 = false := hW.no14 hs (by decide); (try simp [waits, Region.binds, hs] at hp); (first | simp only [frm, List.foldl, Act.put, List.setIfInBounds_toArray, List.set_cons_succ, List.set_cons_zero, hs, hp, S14, cond_true, cond_false] | simp only [frm, List.foldl, Act.put, List.setIfInBounds_toArray, List.set_cons_succ, List.set_cons_zero, hs, S14, cond_true, cond_false]); have HW := Lib.hid hW; clear hW; ((with_reducible apply wpList_slice_hi); (case hw => rfl); (case ho => rfl); (case hx => rfl); (case hy => rfl); (case hr => exact fun w => slice_to g i cp m HLE.out w)); go_wp2; refine ⟨q, by (first | simp [frm, Act.put, upd, hs, hp, S14] | simp [frm, Act.put, upd, hs, S14]), HW.out.keep S14 (by decide) (by decide) (by decide) (by decide) (by decide)⟩
              · have S14 : s 14 = false := hW.no14 hs (by decide); (try simp [waits, Region.binds, hs] at hp); (first | simp only [frm, List.foldl, Act.put, List.setIfInBounds_toArray, List.set_cons_succ, List.set_cons_zero, hs, hp, S14, cond_true, cond_false] | simp only [frm, List.foldl, Act.put, List.setIfInBounds_toArray, List.set_cons_succ, List.set_cons_zero, hs, S14, cond_true, cond_false]); have HW := Lib.hid hW; clear hW; go_wp2_with fail; go_at_call 102; refine (l1Own_any ⟨g, 0, none⟩ m cp (plF r i) HM.out _ (fun j hj => by rw [addr_add, Nat.zero_add]; exact CO.out _ HW.out.1 j (by have := HLE2.out; omega))).mono ?_; rintro e' w2 ⟨o2, c2, rfl, hI2, hb2⟩; have HI2 := Lib.hid hI2; have HB2 := Lib.hid hb2; clear hI2 hb2; go_wp2; refine ⟨{ q with a := o2, ca := c2 }, by (first | simp [frm, Act.put, upd, hs, hp, S14] | simp [frm, Act.put, upd, hs, S14]), HW.out.own S14 HB2.out (HI2.out.congr (fun p hp' => HLT.out p hp'))⟩
              · have S14 : s 14 = false := hW.no14 hs (by decide); (try simp [waits, Region.binds, hs] at hp); (first | simp only [frm, List.foldl, Act.put, List.setIfInBounds_toArray, List.set_cons_succ, List.set_cons_zero, hs, hp, S14, cond_true, cond_false] | simp only [frm, List.foldl, Act.put, List.setIfInBounds_toArray, List.set_cons_succ, List.set_cons_zero, hs, S14, cond_true, cond_false]); have HW := Lib.hid hW; clear hW; go_wp2; refine ⟨q, by (first | simp [frm, Act.put, upd, hs, hp, S14] | simp [frm, Act.put, upd, hs, S14]), HW.out.keep S14 (by decide) (by decide) (by decide) (by decide) (by decide)⟩
              · have S14 : s 14 = false := hW.no14 hs (by decide); (try simp [waits, Region.binds, hs] at hp); (first | simp only [frm, List.foldl, Act.put, List.setIfInBounds_toArray, List.set_cons_succ, List.set_cons_zero, hs, hp, S14, cond_true, cond_false] | simp only [frm, List.foldl, Act.put, List.setIfInBounds_toArray, List.set_cons_succ, List.set_cons_zero, hs, S14, cond_true, cond_false]); have HW := Lib.hid hW; clear hW; go_wp2; refine ⟨q, by (first | simp [frm, Act.put, upd, hs, hp, S14] | simp [frm, Act.put, upd, hs, S14]), HW.out.keep S14 (by decide) (by decide) (by decide) (by decide) (by decide)⟩
              · have S14 : s 14 = false := hW.no14 hs (by decide); (try simp [waits, Region.binds, hs] at hp); (first | simp only [frm, List.foldl, Act.put, List.setIfInBounds_toArray, List.set_cons_succ, List.set_cons_zero, hs, hp, S14, cond_true, cond_false] | simp only [frm, List.foldl, Act.put, List.setIfInBounds_toArray, List.set_cons_succ, List.set_cons_zero, hs, S14, cond_true, cond_false]); have HW := Lib.hid hW; clear hW; go_wp2; refine ⟨q, by (first | simp [frm, Act.put, upd, hs, hp, S14] | simp [frm, Act.put, upd, hs, S14]), HW.out.keep S14 (by decide) (by decide) (by decide) (by decide) (by decide)⟩
              · have S14 : s 14 = false := hW.no14 hs (by decide); (try simp [waits, Region.binds, hs] at hp); (first | simp only [frm, List.foldl, Act.put, List.setIfInBounds_toArray, List.set_cons_succ, List.set_cons_zero, hs, hp, S14, cond_true, cond_false] | simp only [frm, List.foldl, Act.put, List.setIfInBounds_toArray, List.set_cons_succ, List.set_cons_zero, hs, S14, cond_true, cond_false]); have HW := Lib.hid hW; clear hW; have c0 := CR.out _ HW.out.1; go_wp2; refine ⟨q, by (first | simp [frm, Act.put, upd, hs, hp, S14] | simp [frm, Act.put, upd, hs, S14]), HW.out.keep S14 (by decide) (by decide) (by decide) (by decide) (by decide)⟩
              · have S14 : s 14 = false := hW.no14 hs (by decide); (try simp [waits, Region.binds, hs] at hp); (first | simp only [frm, List.foldl, Act.put, List.setIfInBounds_toArray, List.set_cons_succ, List.set_cons_zero, hs, hp, S14, cond_true, cond_false] | simp only [frm, List.foldl, Act.put, List.setIfInBounds_toArray, List.set_cons_succ, List.set_cons_zero, hs, S14, cond_true, cond_false]); have HW := Lib.hid hW; clear hW; go_wp2; refine ⟨{ q with b := wv.heap.size }, by (first | simp [frm, Act.put, upd, hs, hp, S14] | simp [frm, Act.put, upd, hs, S14]), HW.out.box S14⟩
              · have S14 : s 14 = false := hW.no14 hs (by decide); (try simp [waits, Region.binds, hs] at hp); (first | simp only [frm, List.foldl, Act.put, List.setIfInBounds_toArray, List.set_cons_succ, List.set_cons_zero, hs, hp, S14, cond_true, cond_false] | simp only [frm, List.foldl, Act.put, List.setIfInBounds_toArray, List.set_cons_succ, List.set_cons_zero, hs, S14, cond_true, cond_false]); have HW := Lib.hid hW; clear hW; have S3 : s 3 = true := (by simp [hp]); have S8 : s 8 = true := (by simp [hp]); ((with_reducible apply (wpList_append_ints (f := plF r (i + 1)) (z := fun _ => r i))); (case hgd => rfl); (case ho => rfl); (case hs => rfl); (case hx => rfl); (case hS => exact Try.underlying60); (case hown => exact HW.out.2.1 S3 hs); (case hz => exact fun j hj => by rw [addr_add, show 0 + j = 0 by omega]; exact HW.out.2.2.1 S8 hs); (case hf => exact fun j hj => by rw [show m + j = m by omega]; exact HAT.out); (case hm => exact HM1.out); (case hB => exact HW.out.1.below.size); intro A2 c2 w2 hI2 hg2 hn2); have HI2 := Lib.hid hI2; have HG2 := Lib.hid hg2; clear hI2 hg2 hn2; go_wp2; refine ⟨{ q with d := A2, cd := c2 }, by (first | simp [frm, Act.put, upd, hs, hp, S14] | simp [frm, Act.put, upd, hs, S14]), HW.out.app9 S14 hs HI2.out (HW.out.2.1 S3 hs) HG2.out⟩
              · have S14 : s 14 = false := hW.no14 hs (by decide); (try simp [waits, Region.binds, hs] at hp); (first | simp only [frm, List.foldl, Act.put, List.setIfInBounds_toArray, List.set_cons_succ, List.set_cons_zero, hs, hp, S14, cond_true, cond_false] | simp only [frm, List.foldl, Act.put, List.setIfInBounds_toArray, List.set_cons_succ, List.set_cons_zero, hs, S14, cond_true, cond_false]); have HW := Lib.hid hW; clear hW; go_wp2; refine ⟨q, by (first | simp [frm, Act.put, upd, hs, hp, S14] | simp [frm, Act.put, upd, hs, S14]), HW.out.keep S14 (by decide) (by decide) (by decide) (by decide) (by decide)⟩
              · have S14 : s 14 = false := hW.no14 hs (by decide); (try simp [waits, Region.binds, hs] at hp); (first | simp only [frm, List.foldl, Act.put, List.setIfInBounds_toArray, List.set_cons_succ, List.set_cons_zero, hs, hp, S14, cond_true, cond_false] | simp only [frm, List.foldl, Act.put, List.setIfInBounds_toArray, List.set_cons_succ, List.set_cons_zero, hs, S14, cond_true, cond_false]); have HW := Lib.hid hW; clear hW; go_wp2; refine ⟨q, by (first | simp [frm, Act.put, upd, hs, hp, S14] | simp [frm, Act.put, upd, hs, S14]), HW.out.keep S14 (by decide) (by decide) (by decide) (by decide) (by decide)⟩
              · have S14 : s 14 = false := hW.no14 hs (by decide); (try simp [waits, Region.binds, hs] at hp); (first | simp only [frm, List.foldl, Act.put, List.setIfInBounds_toArray, List.set_cons_succ, List.set_cons_zero, hs, hp, S14, cond_true, cond_false] | simp only [frm, List.foldl, Act.put, List.setIfInBounds_toArray, List.set_cons_succ, List.set_cons_zero, hs, S14, cond_true, cond_false]); have HW := Lib.hid hW; clear hW; ((with_reducible apply wpList_slice_lo); (case hw => rfl); (case ho => rfl); (case hx => rfl); (case hy => rfl); (case hr => exact HSF.out)); go_wp2; refine ⟨q, by (first | simp [frm, Act.put, upd, hs, hp, S14] | simp [frm, Act.put, upd, hs, S14]), HW.out.keep S14 (by decide) (by decide) (by decide) (by decide) (by decide)⟩
              · have S14 : s 14 = false := hW.no14 hs (by decide); (try simp [waits, Region.binds, hs] at hp); (first | simp only [frm, List.foldl, Act.put, List.setIfInBounds_toArray, List.set_cons_succ, List.set_cons_zero, hs, hp, S14, cond_true, cond_false] | simp only [frm, List.foldl, Act.put, List.setIfInBounds_toArray, List.set_cons_succ, List.set_cons_zero, hs, S14, cond_true, cond_false]); have HW := Lib.hid hW; clear hW; have S9 : s 9 = true := (by simp [hp]); ((with_reducible apply (wpList_append_ints (f := plF r (i + 1)) (z := fun j => plF r i (m + j)))); (case hgd => rfl); (case ho => rfl); (case hs => rfl); (case hx => rfl); (case hS => exact Try.underlying60); (case hown => exact HW.out.2.2.2.1 S9 hs); (case hz => exact fun j hj => by have := HLE2.out; rw [HOF.out (by omega), addr_add]; exact CO.out _ HW.out.1 (m + j) (by omega)); (case hf => exact fun j hj => by rw [show m + 1 + j = (m + j) + 1 by omega]; exact HGT.out (m + j) (by omega) (by omega)); (case hm => exact HM2.out); (case hB => exact HW.out.1.below.size); intro A2 c2 w2 hI2 hg2 hn2); have HI2 := Lib.hid hI2; have HG2 := Lib.hid hg2; clear hI2 hg2 hn2; go_wp2; refine ⟨{ q with e := A2, ce := c2 }, by (first | simp [frm, Act.put, upd, hs, hp, S14] | simp [frm, Act.put, upd, hs, S14]), HW.out.app13 S14 S9 hs HI2.out (HW.out.2.2.2.1 S9 hs) HG2.out⟩
              · (try simp [waits, Region.binds, hs] at hp); (first | simp only [frm, List.foldl, Act.put, List.setIfInBounds_toArray, List.set_cons_succ, List.set_cons_zero, hs, hp, cond_true, cond_false] | simp only [frm, List.foldl, Act.put, List.setIfInBounds_toArray, List.set_cons_succ, List.set_cons_zero, hs, cond_true, cond_false]); have HW := Lib.hid hW; clear hW; go_wp2; refine ⟨q, by (first | simp [frm, Act.put, upd, hs, hp] | simp [frm, Act.put, upd, hs]), HW.out.fin14 (all14 (by simp [hp]))⟩
            · intro s q wg hW hall
              have hs := fun i (hi : i < 15) => hall i (by simpa using hi)
              simp only [frm, List.foldl, Act.put, List.setIfInBounds_toArray, List.set_cons_succ, List.set_cons_zero, hs 0 (by omega), hs 1 (by omega), hs 2 (by omega), hs 3 (by omega), hs 4 (by omega), hs 5 (by omega), hs 6 (by omega), hs 7 (by omega), hs 8 (by omega), hs 9 (by omega), hs 10 (by omega), hs 11 (by omega), hs 12 (by omega), hs 13 (by omega), hs 14 (by omega), cond_true]
              have hI3 := (hW.2.2.2.2.1 (hs 13 (by omega))).2
              have HB3 := Lib.hid (HB0.out.trans (hW.1.below.mono HB0.out.size))
              clear hW hs hall
              obtain ⟨qa, qca, qb, qd, qcd, qe, qce⟩ := q
              simp only at hI3 ⊢
              rw [HIL.out] at hI3 ⊢
              obtain ⟨g3, rfl, _, _, _⟩ := hI3.cell (k := 0) (by omega)
              have HI3 := Lib.hid (hI3.base HB0.out.size)
              have HC3 := Lib.hid (show i + 1 ≤ qce by
                obtain ⟨_, _, _, _, _, h5, _⟩ := own_form hI3 (by omega)
                exact h5)
              clear hI3
              go_wp2
              go_roundw
              case rel => exact ⟨i + 1, by omega, by go_num, ⟨g3, qce, rfl, HC3.out, HI3.out⟩, HB3.out⟩
              case measure => simp [intOf]; omega
        · cases j with
          | zero => cases hq
          | succ q =>
            have hc : plF r i q < r i := by simpa using hq
            have HC := Lib.hid hc
            have d1 : decide (plF r i q < r i) = true := by simp [hc]
            clear hq hc
            obtain ⟨g2, e2, _, _, c1⟩ := HI.out.cell (k := q) (by omega)
            obtain rfl : g = g2 := by injection e2 with e2; injection e2
            clear e2
            have c2 : wr.cell? ⟨gr, i, none⟩ = some (.int .i64 (r i)) := (H.out.below HB.out H.out.lt).cell hlt
            go_wp2
            go_quiet (fail)
            go_wp2
            go_roundw
            case rel => exact ⟨q, by omega, by go_num, HP.out.trans (by simp only [posF]; rw [if_pos HC.out]), HI.out.below ⟨rfl, rfl, rfl, Nat.le_refl _, fun _ _ => rfl⟩, below_drewN HB.out _⟩
            case measure => first | (simp [intOf]; done) | (simp [intOf]; omega)
    · obtain rfl : i = N := by omega
      have d0 : decide (i < i) = false := by simp
      go_wp2
      go_ret
      exact ⟨g, cp, rfl, HI.out, HB.out⟩
end Go.Proofs.Ytbfhfadfjgfmaaa
