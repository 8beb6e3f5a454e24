/- Slices of slices of ints: marked, compared. -/
import Derived.Test.YtbfhfadfjgfmaaaGrid
set_option linter.unusedVariables false
set_option linter.unusedSimpArgs false
set_option linter.unusedSectionVars false
namespace Go.Proofs.Ytbfhfadfjgfmaaa
open Go.RowKit
theorem own_same {w w' : World} {B s n : Nat} {e : TypeId} {v : Value} {xs : List Value} (h : w.ownsRow B e s v n xs) (hk : ∀ g, v.ownBlock = some g → w'.heap[g]? = w.heap[g]?) : w'.ownsRow B e s v n xs := by
  obtain ⟨h1, h2⟩ := h
  refine ⟨h1, ?_⟩
  rcases h2 with h2 | ⟨b, cap, cur, rfl, hb, hg, hr⟩
  · exact .inl h2
  · exact .inr ⟨b, cap, cur, rfl, hb, (hk b rfl).trans hg, hr⟩
theorem Grid.keptB {w0 w1 w2 : World} {B0 B m c : Nat} {o : Option Addr} {ad : Nat → Option Addr × Nat} {len : Nat → Nat} {f f0 : Nat → Nat → Int} (h0 : Grid w0 B0 o m c ad len f0) (h1 : Grid w1 B0 o m c ad len f) (hb : Below B w1 w2) (hB : w0.heap.size ≤ B) : Grid w2 B0 o m c ad len f :=
  ⟨own_same h1.outer fun g e => hb.block g (by have := h0.outer_lt e; omega), fun i hi => own_same (h1.rows i hi) fun g e => hb.block g (by have := h0.lt hi e; omega), h1.sep⟩
set_option maxHeartbeats 1000000 in
theorem markGrid_any (o : Option Addr) (m c B : Nat) (ad : Nat → Option Addr × Nat) (len : Nat → Nat) (f : Nat → Nat → Int) (hm : m ≤ 1000) (hl : ∀ i, i < m → len i ≤ 1000) (w : World) (hBw : B ≤ w.heap.size) (h : Grid w B o m c ad len f) : Calls Try.prog 34 #[.slice o m c, .int .i64 1] w fun e w' => e = .returned (.int .i64 ((offL len m : Nat) : Int)) ∧ Grid w' B o m c ad len (markF len) ∧ Below B w w' := by
  have H := Lib.hid h; clear h
  have HL := Lib.hid hl; clear hl
  have HBW := Lib.hid hBw; clear hBw
  go_enter Try.func34, Try.ntmps34
  go_wp2
  go_loopw [1, 5] (fun t i wr => ∃ k : Nat, k ≤ m ∧ i = .int .i64 (k : Int) ∧ t = .int .i64 ((offL len k : Nat) : Int) ∧ Grid wr B o m c ad len (fun i j => if i < k then markF len i j else f i j) ∧ Below B w wr) (fun t i _ => m - (intOf i).toNat)
  case atStart => exact ⟨0, by omega, rfl, rfl, H.out.congr (fun i _ j _ => by simp), Below.refl _ _⟩
  case round =>
    obtain ⟨k, hk, rfl, rfl, hG, hb⟩ := hrel
    have G1 := Lib.hid hG; have HB := Lib.hid hb
    clear hG hb
    by_cases hlt : k < m
    · obtain ⟨g, rfl, _, _, c0⟩ := G1.out.cell hlt
      have d1 : decide (k < m) = true := by simp; omega
      have hq1 := offL_le HL.out k (by omega)
      have hq3 := HL.out k hlt
      have hq2 : k * 1000 ≤ 1000000 := by omega
      have HQ := Lib.hid (show offL len (k + 1) = offL len k + len k from rfl)
      obtain ⟨q, hq⟩ : ∃ q, q = offL len k := ⟨_, rfl⟩
      have HRR := Lib.hid (fun w h => markIntsAt_any (ad k).1 (len k) (ad k).2 B q (fun j => if k < k then markF len k j else f k j) (by omega) (by omega) w h)
      have HQ0 := Lib.hid hq
      rw [← hq] at HQ ⊢
      obtain ⟨q2, hq2'⟩ : ∃ q2, q2 = q + len k := ⟨_, rfl⟩
      rw [← hq2'] at HRR HQ
      have hb : q2 ≤ 2000000 := by omega
      clear hq hq2' hq1 hq3
      go_wp2_with fail
      go_at_call 78
      refine (HRR.out _ (G1.out.rows k hlt)).mono ?_
      rintro e w1 ⟨rfl, hI, hg⟩
      have HI := Lib.hid hI; have HG := Lib.hid hg
      clear hI hg
      go_wp2
      go_roundw
      case rel =>
        refine ⟨k + 1, by omega, by go_num, by rw [HQ.out], ⟨World.ownsRow.kept G1.out.outer HG.out ?_, fun i hi => ?_, G1.out.sep⟩, below_grown HB.out HG.out (fun g e => (G1.out.lt hlt e).1) (by have := HBW.out; have := HB.out.size; omega)⟩
        · cases q : Value.ownBlock (.slice (some ⟨g, 0, none⟩) m c) with
          | none => exact .inl rfl
          | some b =>
            refine .inr fun e => ?_
            rcases G1.out.apart hlt with e2 | e2
            · rw [show Value.ownBlock (.slice (ad k).1 (len k) (ad k).2) = none from e2] at e; cases e
            · exact e2 (e.symm.trans q.symm)
        · by_cases e : i = k
          · subst e
            exact HI.out.congr fun j hj => by simp only [Nat.lt_succ_self, if_true, markF, HQ0.out]
          · have h1 : Ints wr B (ad i).1 (len i) (ad i).2 (fun j => if i < k then markF len i j else f i j) := G1.out.rows i hi
            refine Ints.congr (h1.grown HG.out ?_) fun j hj => ?_
            · rcases Nat.lt_or_gt_of_ne e with h | h
              · exact G1.out.sep i k h hlt
              · rcases G1.out.sep k i h hi with e2 | e2
                · cases q : Value.ownBlock (.slice (ad i).1 (len i) (ad i).2) with
                  | none => exact .inl rfl
                  | some b =>
                    refine .inr fun e3 => ?_
                    rw [show Value.ownBlock (.slice (ad k).1 (len k) (ad k).2) = none from e2] at e3
                    cases e3
                · exact .inr fun e3 => e2 e3.symm
            · by_cases h2 : i < k
              · rw [if_pos h2, if_pos (by omega)]
              · rw [if_neg h2, if_neg (by omega)]
      case measure => simp [intOf]; omega
    · have d1 : decide (k < m) = false := by simp; omega
      obtain rfl : k = m := by omega
      go_wp2
      go_ret
      exact ⟨rfl, G1.out.congr (fun i hi j _ => by rw [if_pos hi]), HB.out⟩
set_option maxHeartbeats 1000000 in
theorem eqGrid_any (o1 o2 : Option Addr) (m c1 c2 B1 B2 : Nat) (ad1 ad2 : Nat → Option Addr × Nat) (len : Nat → Nat) (f : Nat → Nat → Int) (hm : m ≤ 1000) (hl : ∀ i, i < m → len i ≤ 1000) (w : World) (h1 : Grid w B1 o1 m c1 ad1 len f) (h2 : Grid w B2 o2 m c2 ad2 len f) : Calls Try.prog 33 #[.slice o1 m c1, .slice o2 m c2] w fun e w' => e = .returned (.bool true) ∧ Below w.heap.size w w' := by
  have H1 := Lib.hid h1; have H2 := Lib.hid h2; clear h1 h2
  have HL := Lib.hid hl; clear hl
  have d0 : ((m : Int) == (m : Int)) = true := by simp
  go_enter Try.func33, Try.ntmps33
  go_wp2
  go_loopw [5] (fun i wr => ∃ k : Nat, k ≤ m ∧ i = .int .i64 (k : Int) ∧ Below w.heap.size w wr) (fun i _ => m - (intOf i).toNat)
  case atStart => exact ⟨0, by omega, rfl, Below.refl _ _⟩
  case round =>
    obtain ⟨k, hk, rfl, hb⟩ := hrel
    by_cases hlt : k < m
    · obtain ⟨g1, rfl, _, _, c1⟩ := (H1.out.below hb).cell hlt
      obtain ⟨g2, rfl, _, _, c2⟩ := (H2.out.below hb).cell hlt
      have d1 : decide (k < m) = true := by simp; omega
      have C1 := Lib.hid c1; have C2 := Lib.hid c2
      have R1 := Lib.hid ((H1.out.below hb).rows k hlt); have R2 := Lib.hid ((H2.out.below hb).rows k hlt)
      have HK := Lib.hid (show len k ≤ 1000000 by have := HL.out k hlt; omega)
      have HB := Lib.hid hb
      clear hb c1 c2
      go_wp2
      refine wp_region_grown_lit (by kernel_rfl) (by kernel_rfl) ?_
      repeat (first | go_big_quiet_skip | (go_big_quiet_want; (first | (refine grown_load_int 60 _ rfl rfl (C1.out) Try.isAgg60 ?_; simp only [Act.put, List.setIfInBounds_toArray, List.set_cons_succ, List.set_cons_zero]; go_big_quiet_on) | (refine grown_load_int 60 _ rfl rfl (C2.out) Try.isAgg60 ?_; simp only [Act.put, List.setIfInBounds_toArray, List.set_cons_succ, List.set_cons_zero]; go_big_quiet_on) | (go_big_quiet_op; (first | go_big_quiet_on | (refine ⟨_, fun _ _ => rfl, ?_⟩; go_big_quiet_on) | (apply Exists.intro; refine ⟨fun _ hC => ?_, ?_⟩; (first | (go_at_call 77; exact grown_of hC (eqInts_any _ _ _ _ _ _ _ _ HK.out _ (R1.out.below hC.below) (R2.out.below hC.below)))); go_big_quiet_on))))))
      refine wpQuiet_nil ?_
      intro wg hg
      have HB3 := Lib.hid (HB.out.trans (hg.below.mono HB.out.size))
      clear hg
      go_wp2
      go_roundw
      case rel => exact ⟨k + 1, by omega, by go_num, HB3.out⟩
      case measure => simp [intOf]; omega
    · have d1 : decide (k < m) = false := by simp; omega
      go_wp2
      go_ret
      exact ⟨rfl, hb⟩
end Go.Proofs.Ytbfhfadfjgfmaaa
