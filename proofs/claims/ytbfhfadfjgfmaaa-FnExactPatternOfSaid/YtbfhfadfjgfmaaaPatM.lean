/- The program's patternOf: it counts by a map, sorts the counts, and writes them into four places. -/
import Derived.Test.YtbfhfadfjgfmaaaPatQ
import Derived.Test.YtbfhfadfjgfmaaaSortV
import Derived.Maps.OwnOps
import Derived.Maps.OwnSet
set_option linter.unusedVariables false
set_option linter.unusedSimpArgs false
set_option linter.unusedSectionVars false
namespace Go.Proofs.Ytbfhfadfjgfmaaa
open Go.RowKit Go.Maps
theorem wf_int (x : Int) (h : -1000000 ≤ x ∧ x ≤ 1000000) : (Lit.int .i64 x).wf = true := by
  simp only [Lit.wf, IntKind.min, IntKind.max, IntKind.signed, IntKind.bits, Bool.and_eq_true, decide_eq_true_eq, if_true]
  omega
theorem keyLit (x : Int) : WideAt.IsKeyLit (.int .i64 x) := trivial
/-- The map that holds how often each of the first k came up. -/
def CntOf (f : Nat → Int) (k : Nat) (D : DataW Unit) : Prop := Tidy D ∧ (∀ x : Int, D.atKey (.int .i64 x) (.lit (.int .i64 0)) = .lit (.int .i64 (occ f k x : Nat))) ∧ (∀ x : Int, has D (.int .i64 x) = decide (0 < occ f k x)) ∧ Maps.size D ≤ k
theorem cntOf_zero (f : Nat → Int) : CntOf f 0 (.map []) := ⟨tidy_empty, fun x => rfl, fun x => rfl, Nat.le_refl _⟩
theorem cntOf_step {f : Nat → Int} {k : Nat} {D : DataW Unit} (h : CntOf f k D) : CntOf f (k + 1) (D.put (.int .i64 (f k)) (.lit (.int .i64 ((occ f k (f k) : Nat) + 1)))) := by
  obtain ⟨h1, h2, h3, h4⟩ := h
  refine ⟨h1.put (keyLit _) _, fun x => ?_, fun x => ?_, ?_⟩
  · by_cases e : x = f k
    · subst e
      rw [atKey_put_same h1.isMap (keyLit _)]
      simp [occ]
    · rw [atKey_put_other (fun q => e (by injection q)), h2 x]
      simp only [occ]
      rw [if_neg (fun q => e q.symm)]
      rfl
  · by_cases e : x = f k
    · subst e
      rw [has_put_same h1.isMap (keyLit _)]
      simp [occ]
    · have eo : occ f (k + 1) x = occ f k x := by simp only [occ]; rw [if_neg (fun q => e q.symm)]; rfl
      rw [has_put_other (fun q => e (by injection q)), h3 x, eo]
  · rw [size_put h1]
    split <;> omega
theorem cnt_at {f : Nat → Int} {k : Nat} {D : DataW Unit} {x c : Int} (h : CntOf f k D) (hat : D.atKey (.int .i64 x) (.lit (.int .i64 0)) = .lit (.int .i64 c)) : c = (occ f k x : Nat) := by
  rw [h.2.1] at hat
  injection hat with hat
  injection hat with _ hat
  exact hat.symm
theorem cnt_elem (o k : Nat) (h : o ≤ k) (hk : k ≤ 1000) : plainElem (H := Unit) Try.prog 3 (.int .i64 ((o : Int) + 1)) = some (.lit (.int .i64 ((o : Int) + 1)), []) := plainElem_int Try.underlying3 (wf_int _ (by omega))
theorem cnt_elem2 (o k : Nat) (h : o ≤ k) (hk : k ≤ 1000) : plainElem (H := Unit) Try.prog 3 (.int .i64 (wrap64 ((o : Int) + 1))) = some (.lit (.int .i64 ((o : Int) + 1)), []) := by
  rw [show wrap64 ((o : Int) + 1) = (o : Int) + 1 by simp only [wrap64]; omega]
  exact cnt_elem o k h hk
/-- What the values of such a map, sorted, come to. -/
theorem vals_pat {f : Nat → Int} {n : Nat} {D : DataW Unit} (h : CntOf f n D) (h1 : 1 ≤ n) (hn : n ≤ 4) {ss : List Int} (hv : ValsOf D ss) :
    (1 ≤ ss.length ∧ ss.length ≤ 4 ∧ ∀ x ∈ ss, 1 ≤ x ∧ x ≤ 4) ∧ ∀ p, p < 4 → extZ ss.length (plF (fun i => ss.getD i 0) ss.length) p = patF (plF f n) n p := by
  obtain ⟨ps, rfl, hnd, hk, hat⟩ := hv
  obtain ⟨h2, h3, h4, h5⟩ := h
  have hk2 : ∀ x, x ∈ ps.map (·.1) ↔ ∃ j, j < n ∧ f j = x := fun x => by
    rw [hk x, h4 x, decide_eq_true_eq, occ_pos]
  have hval : ∀ p ∈ ps, p.2 = (occ f n p.1 : Nat) := fun p hp => by
    have a := hat p hp (.lit (.int .i64 0))
    rw [h3] at a
    injection a with a
    injection a with _ a
    exact a.symm
  have hmem : ∀ x ∈ ps.map (·.2), 1 ≤ x ∧ x ≤ 4 := fun x hx => by
    obtain ⟨p, hp, rfl⟩ := List.mem_map.1 hx
    have a := (occ_pos f p.1 n).2 ((hk2 p.1).1 (List.mem_map.2 ⟨p, hp, rfl⟩))
    have b := occ_le f p.1 n
    rw [hval p hp]
    omega
  have hget : ∀ j, j < (ps.map (·.2)).length → 1 ≤ (ps.map (·.2)).getD j 0 := fun j hj => by
    refine (hmem _ ?_).1
    rw [List.getD_eq_getElem?_getD, List.getElem?_eq_getElem hj]
    exact List.getElem_mem hj
  have hc1 := vals_hc f n ps hnd hk2 hval 1 (Nat.le_refl _)
  have hg1 := gP_le f 1 n
  have hall : hc (fun i => (ps.map (·.2)).getD i 0) ((1 : Nat) : Int) (ps.map (·.2)).length = (ps.map (·.2)).length := hc_all _ hget
  have hl4 : (ps.map (·.2)).length ≤ 4 := by omega
  have hl1 : 1 ≤ (ps.map (·.2)).length := by
    have := (hk2 (f 0)).2 ⟨0, by omega, rfl⟩
    have := List.length_pos_of_mem this
    rw [List.length_map] at this ⊢
    exact this
  exact ⟨⟨hl1, hl4, hmem⟩, fun p hp => pat_sorted f hn _ _ hl4 (fun j hj => by have := hget j hj; omega) (fun z hz => vals_hc f n ps hnd hk2 hval z hz) p hp⟩
theorem ext_step (s : Nat → Int) (i : Nat) : upd (extZ i s) i (s i) = extZ (i + 1) s := by
  funext p
  simp only [upd, extZ]
  by_cases e : p = i
  · subst e; rw [if_pos rfl, if_pos (by omega)]
  · rw [if_neg e]
    by_cases c : p < i
    · rw [if_pos c, if_pos (by omega)]
    · rw [if_neg c, if_neg (by omega)]
set_option maxRecDepth 100000 in
set_option maxHeartbeats 2000000 in
theorem patternOf_any (rb n : Nat) (r : Nat → Int) (h1 : 1 ≤ n) (hn : n ≤ 4) (hr : ∀ j, j < n → -1000000 ≤ r j ∧ r j ≤ 1000000) (w : World) (h : Blk w rb n 3 (I r)) :
    Calls Try.prog 50 #[.slice (some ⟨rb, 0, none⟩) n n] w fun e w' => e = .returned (.agg (row 4 (I (patF (plF r n) n)))) ∧ Below w.heap.size w w' := by
  have H := Lib.hid h; clear h
  have HR := Lib.hid hr; clear hr
  have hmm := @run_makeMap Try.prog
  go_enter Try.func50, Try.ntmps50
  go_wp2_with (first | (refine wpList_alloc_blk rfl 29 rfl zero4 ?_) | fail)
  generalize hW : (w.alloc (.cells (row 4 (I fun _ => 0)) 29)).alloc (.map #[] 0) = W0
  have R0 := Lib.hid (show Blk W0 w.heap.size 4 29 (I fun _ => 0) from hW ▸ (Blk.new _ _ _ _).alloc _)
  have M0 := Lib.hid (show W0.ownsMap Try.prog 3 (plainElem (H := Unit) Try.prog 3) (w.heap.size + 1) 0 (.map []) from hW ▸ by
    have := World.ownsMap_made (w.alloc (.cells (row 4 (I fun _ => 0)) 29)) Try.prog 3 (plainElem (H := Unit) Try.prog 3)
    simpa using this)
  have HB0 := Lib.hid (show Below w.heap.size w W0 from hW ▸ ((Below.refl _ _).alloc (by omega) _).alloc (by simp) _)
  have H0 := Lib.hid (H.out.below HB0.out H.out.lt)
  have HL := Lib.hid H.out.lt
  clear hW H
  go_loopw [12] (fun i wr => ∃ (k : Nat) (D : DataW Unit), k ≤ n ∧ i = .int .i64 (k : Int) ∧ Blk wr rb n 3 (I r) ∧ Blk wr w.heap.size 4 29 (I fun _ => 0) ∧ wr.ownsMap Try.prog 3 (plainElem (H := Unit) Try.prog 3) (w.heap.size + 1) k D ∧ CntOf r k D ∧ Below w.heap.size w wr) (fun i _ => n - (RowKit.intOf i).toNat)
  case atStart => exact ⟨0, .map [], by omega, by go_num, H0.out, R0.out, M0.out, cntOf_zero r, HB0.out⟩
  case round =>
    obtain ⟨k, D, hk, rfl, hA, hR, hM, hC, hB⟩ := hrel
    clear H0 R0 M0 HB0
    have A1 := Lib.hid hA; have R1 := Lib.hid hR; have M1 := Lib.hid hM; have C1 := Lib.hid hC; have B1 := Lib.hid hB
    clear hA hR hM hC hB
    by_cases hlt : k < n
    · have d0 : decide (k < n) = true := by simp; omega
      have c1 : wr.cell? ⟨rb, k, none⟩ = some (.int .i64 (r k)) := A1.out.cell hlt
      have f1 : wr.frozen? ⟨rb, k, none⟩ = false := A1.out.free _
      have K1 := Lib.hid (keyOf_int_mk Try.underlying3 (wf_int _ (HR.out k hlt)))
      have E1 := Lib.hid (cnt_elem2 (occ r k (r k)) k (occ_le r (r k) k) (by omega))
      go_wp2_with (first
        | (at_lookup; refine wpList_lookup_own_int _ rfl _ _ 93 rfl 3 3 .i64 (Maps.int_keyed Try.underlying3) Try.underlying93 Try.underlying3 (Try.zeroValue3 _) (w.heap.size + 1) k D rfl M1.out _ _ rfl K1.out ?_; intro c hat hwc; obtain rfl := cnt_at C1.out hat; clear hat hwc)
        | (at_mapUpdate; refine wpList_mapUpdate_own _ rfl _ _ _ 93 rfl 3 3 (Maps.int_keyed Try.underlying3) Try.underlying93 _ (w.heap.size + 1) k D rfl M1.out (by simp only [maxLen]; omega) _ _ _ rfl rfl K1.out _ [] E1.out ?_; intro w1 hown1 hgrow1)
        | go_in)
      go_roundw
      case rel => exact ⟨k + 1, _, by omega, by go_num, A1.out.grown hgrow1 (fun e => by injection e with e; have := HL.out; omega), R1.out.grown hgrow1 (fun e => by injection e with e; omega), hown1, cntOf_step C1.out, below_grown B1.out hgrow1 (fun g e => by cases e; omega) B1.out.size⟩
      case measure => simp [RowKit.intOf]; omega
    · have d0 : decide (k < n) = false := by simp; omega
      obtain rfl : k = n := by omega
      have P1 := Lib.hid (fun ss (h : ValsOf D ss) => vals_pat C1.out h1 hn h)
      have hsz : Maps.size D ≤ k := C1.out.2.2.2
      go_wp2_with (first | (refine wpList_alloc_blk rfl 29 rfl zero4 ?_) | fail)
      generalize hW : wr.alloc (.cells (row 4 (I fun _ => 0)) 29) = W1
      have hs : wr.heap.size = W1.heap.size - 1 := by rw [← hW]; simp
      obtain ⟨ob, hob⟩ : ∃ ob, ob = wr.heap.size := ⟨_, rfl⟩
      have O2 := Lib.hid (show Blk W1 ob 4 29 (I fun _ => 0) from hob ▸ hW ▸ Blk.new _ _ _ _)
      have R2 := Lib.hid (show Blk W1 w.heap.size 4 29 (I fun _ => 0) from hW ▸ R1.out.alloc _)
      have M2 := Lib.hid (show W1.ownsMap Try.prog 3 (plainElem (H := Unit) Try.prog 3) (w.heap.size + 1) k D from hW ▸ M1.out.alloc _)
      have B2 := Lib.hid (show Below w.heap.size w W1 from hW ▸ B1.out.alloc B1.out.size _)
      have NE := Lib.hid (show w.heap.size < ob from hob ▸ R1.out.lt)
      rw [← hob]
      clear hW A1 R1 M1 B1 C1 HR hmm hs hob
      go_wp2_with fail
      go_at_call 93
      refine (values_any _ _).mono ?_
      rintro e w' ⟨rfl, rfl⟩
      generalize hW : W1.alloc (.cells #[.map (some (w.heap.size + 1))] 93) = W2
      have O3 := Lib.hid (show Blk W2 ob 4 29 (I fun _ => 0) from hW ▸ O2.out.alloc _)
      have R3 := Lib.hid (show Blk W2 w.heap.size 4 29 (I fun _ => 0) from hW ▸ R2.out.alloc _)
      have M3 := Lib.hid (show W2.ownsMap Try.prog 3 (plainElem (H := Unit) Try.prog 3) (w.heap.size + 1) k D from hW ▸ M2.out.alloc _)
      have B3 := Lib.hid (show Below w.heap.size w W2 from hW ▸ B2.out.alloc B2.out.size _)
      have C3 := Lib.hid (show W2.cell? ⟨W1.heap.size, 0, none⟩ = some (.map (some (w.heap.size + 1))) from hW ▸ (Blk.newAt (n := 1) (f := fun _ => .map (some (w.heap.size + 1))) rfl rfl).cell (by omega))
      have L3 := Lib.hid (show W1.heap.size < W2.heap.size by rw [← hW]; simp)
      clear hW O2 R2 M2 B2
      go_wp2_with fail
      go_at_call 92
      refine (sortedVals_any W1.heap.size (w.heap.size + 1) k D (by omega) (fun ss h => by
        obtain ⟨⟨a1, a2, a3⟩, _⟩ := P1.out ss h
        exact ⟨a1, by omega, fun x hx => by have := a3 x hx; omega⟩) _ L3.out C3.out M3.out).mono ?_
      rintro e W3 ⟨g, cap, ss, rfl, hv, hg, hRo, hb⟩
      obtain ⟨⟨hl1, hl4, -⟩, hpat⟩ := P1.out ss hv
      obtain ⟨s, hs⟩ : ∃ s, s = plF (fun i => ss.getD i 0) ss.length := ⟨_, rfl⟩
      obtain ⟨m, hm⟩ : ∃ m, m = ss.length := ⟨_, rfl⟩
      rw [← hs] at hpat hRo
      rw [← hm] at hpat hRo hl1 hl4
      rw [← hm]
      have PT := Lib.hid hpat
      have S4 := Lib.hid hRo
      have O4 := Lib.hid (O3.out.below hb O3.out.lt)
      have R4 := Lib.hid (R3.out.below hb R3.out.lt)
      have B4 := Lib.hid (B3.out.trans (hb.mono B3.out.size))
      have HG := Lib.hid (show ob < g from Nat.lt_of_lt_of_le O3.out.lt hg)
      clear hs hm hpat hRo hb hg hv P1 O3 R3 M3 B3 C3 L3
      go_wp2_with fail
      go_loopw [25] (fun i wr => ∃ j : Nat, j ≤ m ∧ i = .int .i64 (j : Int) ∧ Ro wr g m 3 (I s) ∧ Blk wr w.heap.size 4 29 (I fun _ => 0) ∧ Blk wr ob 4 29 (I (extZ j s)) ∧ Below w.heap.size w wr) (fun i _ => m - (RowKit.intOf i).toNat)
      case atStart => exact ⟨0, by omega, by go_num, S4.out, R4.out, O4.out.ext (fun p _ => by simp [I, extZ]), B4.out⟩
      case round =>
        obtain ⟨j, hj, rfl, hS, hR, hO, hB⟩ := hrel
        clear S4 R4 O4 B4
        have S5 := Lib.hid hS; have R5 := Lib.hid hR; have O5 := Lib.hid hO; have B5 := Lib.hid hB
        clear hS hR hO hB
        by_cases hlt : j < m
        · have d1 : decide (j < m) = true := by simp; omega
          have hj4 : j < 4 := by omega
          have c2 : wr.cell? ⟨g, j, none⟩ = some (.int .i64 (s j)) := S5.out.cell hlt
          have c3 : wr.cell? ⟨ob, j, none⟩ = some (.int .i64 (extZ j s j)) := O5.out.cell hj4
          have f2 : wr.frozen? ⟨g, j, none⟩ = false := S5.out.free _
          have f3 : wr.frozen? ⟨ob, j, none⟩ = false := O5.out.free _
          go_wp2
          go_roundw
          case rel => exact ⟨j + 1, by omega, by go_num, S5.out.other _ _ (by have := HG.out; simp; omega), R5.out.other _ _ (by have := NE.out; simp; omega), by rw [← ext_step, ← I_upd]; exact O5.out.set hj4 _, B5.out.setCell (by have := NE.out; simp; omega) _⟩
          case measure => simp [RowKit.intOf]; omega
        · have d1 : decide (j < m) = false := by simp; omega
          obtain rfl : j = m := by omega
          go_wp2_with (first | ((with_reducible apply wpList_load_blk); (case hw => rfl); (case ho => rfl); (case hx => rfl); (case hb => with_reducible exact O5.out); (case hu => exact Try.underlying29); (case hi => exact sz4)) | (refine wpList_store_blk rfl 29 _ _ rfl (R5.out) rfl rfl sz4 (fun _ _ => rfl) ?_) | fail)
          exact post_blk rfl (R5.out.setRow _) rfl Try.underlying29 sz4 rfl ⟨congrArg (fun c => Ending.returned (.agg c)) (row_ext (fun p hp => congrArg (Value.int .i64) (PT.out p hp))), below_setRow B5.out (Nat.le_refl _) _⟩
end Go.Proofs.Ytbfhfadfjgfmaaa
