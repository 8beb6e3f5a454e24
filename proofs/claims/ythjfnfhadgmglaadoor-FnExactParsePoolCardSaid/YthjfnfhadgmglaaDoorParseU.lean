/- ParsePool, the reference's side. -/
import Derived.Test.YthjfnfhadgmglaaDoorParseT
set_option linter.unusedVariables false
set_option linter.unusedSimpArgs false
set_option linter.unusedSectionVars false
namespace Go.Proofs.YthjfnfhadgmglaaDoor
open Go.RowKit
theorem own_kind {w : World} {B B' s s' n n' : Nat} {e e' : TypeId} {v v' : Value} {xs xs' : List Value} (h : w.ownsRow B e s v n xs) (h' : w.ownsRow B' e' s' v' n' xs') (hne : e ≠ e') : v.ownBlock = none ∨ v.ownBlock ≠ v'.ownBlock := by
  rcases h.2 with ⟨rfl, _⟩ | ⟨b, cap, cur, rfl, _, hb, _⟩
  · exact .inl rfl
  · refine .inr fun q => ?_
    rcases h'.2 with ⟨rfl, _⟩ | ⟨b', cap', cur', rfl, _, hb', _⟩
    · cases q
    · have : b = b' := by simpa [Value.ownBlock] using q
      subst this
      rw [hb] at hb'
      injection hb' with hb'
      injection hb' with _ ht
      exact hne ht
theorem Strs.apart {w : World} {B m c : Nat} {o : Option Addr} {f : Nat → ByteArray} (h : Strs w B o m c f) {b : Nat} (hb : w.heap.size ≤ b) : Value.ownBlock (.slice o m c) = none ∨ Value.ownBlock (.slice o m c) ≠ some b := by
  cases q : Value.ownBlock (.slice o m c) with
  | none => exact .inl rfl
  | some k => exact .inr (fun e => by injection e with e; have := (h.lt q).2; omega)
theorem Arrs.pool {w : World} {T : TypeId} {B m c : Nat} {o : Option Addr} {F : Nat → Int} {x : Nat → Nat → Int} (h : Arrs w T 6 B o m c F) (he : ∀ i, i < m → ∀ j, j < 6 → F (i * 6 + j) = x i j) : PoolAt w o m x := fun i hi => by
  obtain ⟨g, h1, _, h3, h4⟩ := h.cells hi
  refine ⟨_, h1, h3, fun j hj => ?_⟩
  have := h4 j hj
  rw [addr_add] at this ⊢
  rw [addr_add, Nat.zero_add, this]
  simp only [I, he i hi j hj]
theorem ppB_pool {s : ByteArray} (h4 : wN s ≤ 4) (hT : ∀ i, i < wN s → okT (wd s i) = true) : ppB s = poolB (wN s) (fun i => fd (wd s i)) := by
  have h1 := wN_pos s
  unfold ppB poolB
  rw [decide_eq_true h4, decide_eq_true (show (1 : Int) ≤ (wN s : Int) by omega), decide_eq_true (show (wN s : Int) ≤ 4 by omega)]
  simp only [Bool.true_and]
  have key : ∀ n, n ≤ wN s → allB (fun i => okD (wd s i)) n = allB (fun i => dieB (fd (wd s i))) n := by
    intro n
    induction n with
    | zero => intro _; rfl
    | succ n ih =>
      intro hn
      have h := hT n (by omega)
      simp only [allB]
      rw [ih (by omega)]
      unfold okD
      rw [h, Bool.true_and]
  exact key _ (Nat.le_refl _)
theorem ppB_noT {s : ByteArray} {k : Nat} (hk : k < wN s) (h : okT (wd s k) = false) : ppB s = false := ppB_no hk (by unfold okD; rw [h]; rfl)
set_option maxRecDepth 100000 in
set_option maxHeartbeats 4000000 in
theorem sParsePool_any (s : ByteArray) (hs : s.size ≤ 1048576) (w : World) : Calls Tryd.prog 28 #[.string s] w fun e w' => ∃ A cp, e = .returned (.tuple #[.slice A (ppN s) cp, .bool (ppB s)]) ∧ Arrs w' 57 6 w.heap.size A (ppN s) cp (ppF s) ∧ Below w.heap.size w w' := by
  have HSP0 := Lib.hid (fun w => l1Split_any s 32 hs w)
  obtain ⟨L, hL⟩ : ∃ L, L = wN s := ⟨_, rfl⟩
  obtain ⟨f, hf⟩ : ∃ f, f = wd s := ⟨_, rfl⟩
  have HSP := Lib.hid (show ∀ w, Calls Tryd.prog 36 #[.string s, .int .u8 32] w fun e w' => ∃ A cp, e = .returned (.slice A L cp) ∧ Strs w' w.heap.size A L cp f ∧ Below w.heap.size w w' from fun w => by rw [hL, hf]; exact HSP0.out w)
  have HLE := Lib.hid hL
  have HFE := Lib.hid hf
  have HLB : L ≤ 2000000 := by have := parts_len_le 32 s; rw [hL]; unfold wN; omega
  have HFS := Lib.hid (show ∀ k, k < L → (f k).size ≤ 1048576 from fun k hk => by have := wd_size s (i := k) (by rw [← hL]; exact hk); rw [hf]; omega)
  clear hL hf HSP0
  go_enter Tryd.func28, Tryd.ntmps28
  go_wp2_with fail
  go_at_call 36
  refine (HSP.out _).mono ?_
  rintro e w1 ⟨A0, c0, rfl, hS, hb⟩
  have S1 := Lib.hid hS
  have I1 := Lib.hid ((Arrs.empty w 57 6 w.heap.size (ppF s) (Nat.le_refl _)).below hb)
  have HB1 := Lib.hid (((Below.refl w.heap.size w).alloc (Nat.le_refl _) (.cells #[] 57)).trans (hb.mono (by simp)))
  clear hS hb
  go_wp2
  go_loopw [4, 6] (fun v i wr => ∃ k : Nat, k ≤ L ∧ k ≤ 5 ∧ i = .int .i64 (k : Int) ∧ (∃ A cp, v = .slice A k cp ∧ Arrs wr 57 6 w.heap.size A k cp (ppF s)) ∧ (∃ Bw, Strs wr Bw A0 L c0 f) ∧ Hid (∀ j, j < k → okT (f j) = true) ∧ Below w.heap.size w wr) (fun v i _ => L - (intOf i).toNat)
  case atStart => exact ⟨0, by omega, by omega, rfl, ⟨_, 0, rfl, I1.out⟩, ⟨_, S1.out⟩, (fun j hj => by omega), HB1.out⟩
  case round =>
    obtain ⟨k, hk, hk5, rfl, ⟨A, cp, rfl, hI⟩, ⟨Bw, hS⟩, HO, hb⟩ := hrel
    clear S1 I1 HB1
    have HI := Lib.hid hI; have HB := Lib.hid hb; have SW := Lib.hid hS
    clear hI hb hS
    have HNO := Lib.hid (show ppB s = false → ∃ A cp, Ending.returned (.tuple #[.slice (some ⟨wr.heap.size, 0, none⟩) 0 0, .bool false]) = .returned (.tuple #[.slice A (ppN s) cp, .bool (ppB s)]) ∧ Arrs (wr.alloc (.cells #[] 57)) 57 6 w.heap.size A (ppN s) cp (ppF s) ∧ Below w.heap.size w (wr.alloc (.cells #[] 57)) from fun G => by
      have HN : ppN s = 0 := by unfold ppN; rw [G]; rfl
      rw [HN, G]
      exact ⟨_, 0, rfl, Arrs.empty _ _ _ _ _ HB.out.size, HB.out.alloc HB.out.size _⟩)
    by_cases hlt : k < L ∧ k ≤ 4
    · obtain ⟨hlt, hk4⟩ := hlt
      have d0 : decide (k < L) = true := by simp; omega
      have d4 : decide ((k : Int) ≤ 4) = true := by simp; omega
      obtain ⟨g, rfl, _, _, cw⟩ := SW.out.cell hlt
      have HSP2 := Lib.hid (fun w => l1Split_any (f k) 46 (HFS.out k hlt) w)
      obtain ⟨M, hM⟩ : ∃ M, M = (parts 46 (f k)).length := ⟨_, rfl⟩
      obtain ⟨q, hq⟩ : ∃ q, q = atS (parts 46 (f k)) := ⟨_, rfl⟩
      have HSP3 := Lib.hid (show ∀ w, Calls Tryd.prog 36 #[.string (f k), .int .u8 46] w fun e w' => ∃ A cp, e = .returned (.slice A M cp) ∧ Strs w' w.heap.size A M cp q ∧ Below w.heap.size w w' from fun w => by rw [hM, hq]; exact HSP2.out w)
      have HMB : M ≤ 2000000 := by have := parts_len_le 46 (f k); have := HFS.out k hlt; omega
      have HME := Lib.hid hM
      have HQE := Lib.hid hq
      clear hM hq HSP2
      go_wp2_with (first | (refine wpList_build0_blk rfl 57 rfl built6 ?_) | fail)
      go_at_call 36
      refine (HSP3.out _).mono ?_
      rintro e w3 ⟨A3, c3, rfl, hS3, hb3⟩
      have S3 := Lib.hid hS3
      have HI3 := Lib.hid (HI.out.below hb3); have SW3 := Lib.hid (SW.out.below hb3); have HB3 := Lib.hid (HB.out.trans (hb3.mono HB.out.size))
      clear hS3 hb3 cw
      by_cases h6 : M = 6
      · subst h6
        have HQS := Lib.hid (show ∀ j, j < 6 → (q j).size ≤ 1048576 from fun j hj => by have := face_size (f k) (i := j) (by rw [← HME.out]; exact hj); have := HFS.out k hlt; rw [HQE.out]; omega)
        go_wp2_with (first | (refine wpList_alloc_blk rfl 57 rfl zero6 ?_) | (((with_reducible apply wpList_store_new); (case hw => rfl); (case ho => rfl); (case hx => rfl); (case hy => rfl); (case hg => rfl); (case hi => exact sz6); (case h1 => exact fun _ _ => rfl))) | fail)
        go_loopw [9] (fun i wr => ∃ j : Nat, j ≤ 6 ∧ i = .int .i64 (j : Int) ∧ Blk wr w3.heap.size 6 57 (I fun p => if p < j then fd (f k) p else 0) ∧ Strs wr 0 A3 6 c3 q ∧ Arrs wr 57 6 w.heap.size A k cp (ppF s) ∧ (∃ Bw, Strs wr Bw (some ⟨g, 0, none⟩) L c0 f) ∧ Hid (∀ p, p < j → rdB (q p) = true) ∧ Below w.heap.size w wr) (fun i _ => 6 - (intOf i).toNat)
        case atStart =>
          exact ⟨0, by omega, rfl, (Blk.new _ _ _ _).ext (fun i _ => by simp [I]), (S3.out.below ((Below.refl _ _).alloc (Nat.le_refl _) _)).base (Nat.zero_le _), HI3.out.below ((Below.refl _ _).alloc (Nat.le_refl _) _), ⟨_, SW3.out.below ((Below.refl _ _).alloc (Nat.le_refl _) _)⟩, (fun p hp => by omega), HB3.out.alloc HB3.out.size _⟩
        case round =>
          obtain ⟨j, hj, rfl, hD, hS, hI, ⟨Bw2, hSW⟩, HP, hb⟩ := hrel
          have D4 := Lib.hid hD; have S4 := Lib.hid hS; have HI4 := Lib.hid hI; have SW4 := Lib.hid hSW; have HB4 := Lib.hid hb
          clear hD hS hI hSW hb
          by_cases hlj : j < 6
          · have d6 : decide (j < 6) = true := by simp; omega
            have d66 : decide ((j : Int) < 6) = true := by simp; omega
            obtain ⟨g3, rfl, _, _, cq⟩ := S4.out.cell hlj
            have HRD := Lib.hid (fun w => l1Read_any (q j) (HQS.out j hlj) w)
            cases hr : rdB (q j)
            · have G := Lib.hid (show ppB s = false from ppB_noT (k := k) (by rw [← HLE.out]; exact hlt) (by rw [← HFE.out]; exact okT_rd_no hlj (by rw [← HQE.out]; exact hr)))
              rw [hr] at HRD
              clear hr
              go_wp2_with fail
              go_at_call 44
              refine (HRD.out _).mono ?_
              rintro e w5 ⟨rfl, m5, rfl⟩
              have HB5 := Lib.hid (below_drewN HB4.out m5)
              go_wp2
              go_ret2
              have HN : ppN s = 0 := by unfold ppN; rw [G.out]; rfl
              exact ⟨_, 0, by rw [HN, G.out]; rfl, by rw [HN]; exact Arrs.empty _ _ _ _ _ HB5.out.size, HB5.out.alloc HB5.out.size _⟩
            · rw [hr] at HRD
              have HRV := Lib.hid (show rdV (q j) = fd (f k) j by unfold fd; rw [HQE.out])
              have HP2 := Lib.hid (show ∀ p, p < j + 1 → rdB (q p) = true from fun p hp => if e : p = j then e ▸ hr else HP.out p (by omega))
              clear hr
              go_wp2_with fail
              go_at_call 44
              refine (HRD.out _).mono ?_
              rintro e w5 ⟨rfl, m5, rfl⟩
              have c5 : (wr.drewN m5).cell? ⟨w3.heap.size, j, none⟩ = some (I (fun p => if p < j then fd (f k) p else 0) j) := (D4.out.drewN m5).cell hlj
              have f5 : (wr.drewN m5).frozen? ⟨w3.heap.size, j, none⟩ = false := (D4.out.drewN m5).free j
              clear cq
              have GS := Lib.hid (show ∀ v, wr.grownBy ((wr.drewN m5).setCell ⟨w3.heap.size, j, none⟩ v) (some w3.heap.size) from fun v => grownS_set (w := wr) (w' := wr.drewN m5) ⟨rfl, rfl, rfl, Nat.le_refl _, fun _ _ _ => rfl⟩ j v)
              go_wp2
              go_roundw
              case rel =>
                refine ⟨j + 1, by omega, by go_num, ((D4.out.drewN m5).set hlj _).ext (fun p hp => ?_), S4.out.grown (GS.out _) (S3.out.apart (Nat.le_refl _)), HI4.out.grown (GS.out _) (HI3.out.apart (Nat.le_refl _)), ⟨_, SW4.out.grown (GS.out _) (SW3.out.apart (Nat.le_refl _))⟩, HP2.out, (below_drewN HB4.out m5).setCell HB3.out.size _⟩
                simp only [upd, I]
                by_cases e : p = j
                · subst e; rw [if_pos rfl, if_pos (by omega), HRV.out]
                · rw [if_neg e]
                  by_cases e2 : p < j
                  · rw [if_pos e2, if_pos (by omega)]
                  · rw [if_neg e2, if_neg (by omega)]
              case measure => simp [intOf]; omega
          · have d6 : decide (j < 6) = false := by simp; omega
            have d66 : decide ((j : Int) < 6) = false := by simp; omega
            obtain rfl : j = 6 := by omega
            have HT := Lib.hid (show okT (f k) = true from okT_yes HME.out.symm (fun p hp => by rw [← HQE.out]; exact HP.out p hp))
            have HO2 := Lib.hid (show ∀ j, j < k + 1 → okT (f j) = true from fun j hj => if e : j = k then e ▸ HT.out else HO.out j (by omega))
            have Z1 := Lib.hid (show Blk (wr.alloc (.cells (row 6 (I fun p => if p < 6 then fd (f k) p else 0)) 57)) wr.heap.size 6 57 (I fun p => if p < 6 then fd (f k) p else 0) from Blk.new _ _ _ _)
            have Z2 := Lib.hid (HI4.out.below ((Below.refl wr.heap.size wr).alloc (Nat.le_refl _) (.cells (row 6 (I fun p => if p < 6 then fd (f k) p else 0)) 57)))
            have ZW := Lib.hid (SW4.out.below ((Below.refl wr.heap.size wr).alloc (Nat.le_refl _) (.cells (row 6 (I fun p => if p < 6 then fd (f k) p else 0)) 57)))
            have Z3 := Lib.hid (show w.heap.size ≤ (wr.alloc (.cells (row 6 (I fun p => if p < 6 then fd (f k) p else 0)) 57)).heap.size by have := HB4.out.size; simp; omega)
            have Z4 := Lib.hid (show k ≤ 1000000 by omega)
            have Z5 := Lib.hid (show ∀ j, j < 6 → ppF s (k * 6 + j) = (fun p => if p < 6 then fd (f k) p else 0) j from fun j hj => by rw [ppF_at s hj, ← HFE.out]; simp only [hj, if_true])
            go_wp2_with (first | ((with_reducible apply wpList_load_blk); (case hw => rfl); (case ho => rfl); (case hx => rfl); (case hb => with_reducible exact D4.out); (case hu => exact Tryd.underlying57); (case hi => exact sz6)) | (((with_reducible apply wpList_buildSlice1_6); (case hw => rfl); (case ho => rfl); (case hx => rfl))) | (((with_reducible apply wpList_append_die); (case hgd => rfl); (case ho => rfl); (case hs => rfl); (case hx => rfl); (case hS => exact Tryd.underlying35); (case hown => exact Z2.out); (case hz => exact Z1.out); (case hf => exact Z5.out); (case hm => exact Z4.out); (case hB => exact Z3.out); intro A2 c2 w2 hI2 hg2)) | fail)
            go_roundw
            case rel => exact ⟨k + 1, by omega, by omega, by go_num, ⟨A2, c2, rfl, hI2⟩, ⟨_, ZW.out.grown hg2 (own_kind ZW.out Z2.out (by decide))⟩, HO2.out, below_grown (HB4.out.alloc HB4.out.size _) hg2 (fun g e => (World.ownsRow.lt HI4.out g e).1) (by have := HB4.out.size; simp; omega)⟩
            case measure => simp [intOf]; omega
      · have G := Lib.hid (show ppB s = false from ppB_noT (k := k) (by rw [← HLE.out]; exact hlt) (by rw [← HFE.out]; exact okT_len_no (by rw [← HME.out]; exact h6)))
        have d6 : ((M : Int) != 6) = true := by simp; omega
        clear h6
        go_wp2_with (first | (refine wpList_alloc_blk rfl 57 rfl zero6 ?_) | (((with_reducible apply wpList_store_new); (case hw => rfl); (case ho => rfl); (case hx => rfl); (case hy => rfl); (case hg => rfl); (case hi => exact sz6); (case h1 => exact fun _ _ => rfl))) | fail)
        go_ret2
        have HN : ppN s = 0 := by unfold ppN; rw [G.out]; rfl
        exact ⟨_, 0, by rw [HN, G.out]; rfl, by
          rw [HN]
          have h := Arrs.empty (w3.alloc (.cells (row 6 (I fun _ => 0)) 57)) 57 6 w.heap.size (ppF s) (by have := HB3.out.size; simp; omega)
          rw [show (w3.alloc (.cells (row 6 (I fun _ => 0)) 57)).heap.size = w3.heap.size + 1 by simp] at h
          exact h, (HB3.out.alloc HB3.out.size _).alloc (by have := HB3.out.size; simp; omega) _⟩
    · by_cases h4 : L ≤ 4
      · have hkL : k = L := by omega
        subst hkL
        have d0 : decide (k < k) = false := by simp
        have dL : decide ((4 : Int) < (k : Int)) = false := by simp; omega
        have dL2 : decide (4 < k) = false := by simp; omega
        have HTT : ∀ i, i < wN s → okT (wd s i) = true := fun i hi => by rw [← HFE.out]; exact HO.out i (by rw [HLE.out]; exact hi)
        have HPP := Lib.hid (ppB_pool (s := s) (by rw [← HLE.out]; exact h4) HTT)
        have HPT := Lib.hid (poolT_fd HTT)
        have HPL := Lib.hid (HI.out.pool (x := fun i => fd (wd s i)) (fun i _ j hj => ppF_at s hj))
        obtain ⟨x, hx⟩ : ∃ x, x = fun i => fd (wd s i) := ⟨_, rfl⟩
        rw [← hx, ← HLE.out] at HPP HPT
        rw [← hx] at HPL
        have HK := Lib.hid (show ppB s = true → ppN s = k from fun h => by unfold ppN; rw [h, HLE.out]; rfl)
        clear HTT hx
        cases g : poolB k x
        · have G := Lib.hid (HPP.out.trans g)
          go_wp2_with fail
          go_at_call 46
          refine (l2Pool_any A k cp x (by omega) _ HPL.out).mono ?_
          rintro e w5 ⟨rfl, hb5⟩
          have HB5 := Lib.hid (HB.out.trans (hb5.mono HB.out.size))
          clear hb5
          rw [g]
          go_wp2
          go_ret2
          have HN : ppN s = 0 := by unfold ppN; rw [G.out]; rfl
          exact ⟨_, 0, by rw [HN, G.out]; rfl, by rw [HN]; exact Arrs.empty _ _ _ _ _ HB5.out.size, HB5.out.alloc HB5.out.size _⟩
        · have G := Lib.hid (HPP.out.trans g)
          obtain ⟨n1, n4, hfx⟩ := poolB_fact g
          have HWR := Lib.hid (fun w h => l2Write_any A k cp x n1 (by omega) hfx w h)
          rw [HPT.out] at HWR
          have e1 : (s.toList == s.toList) = true := by simp
          clear hfx
          go_wp2_with fail
          go_at_call 46
          refine (l2Pool_any A k cp x (by omega) _ HPL.out).mono ?_
          rintro e w5 ⟨rfl, hb5⟩
          have HB5 := Lib.hid (HB.out.trans (hb5.mono HB.out.size))
          have HPL5 := Lib.hid (HPL.out.below hb5)
          have HI5 := Lib.hid (HI.out.below hb5)
          clear hb5
          rw [g]
          clear g
          go_wp2_with fail
          go_at_call 47
          refine (HWR.out _ HPL5.out).mono ?_
          rintro e w6 ⟨rfl, hb6⟩
          have HB6 := Lib.hid (HB5.out.trans (hb6.mono HB5.out.size))
          have HI6 := Lib.hid (HI5.out.below hb6)
          clear hb6
          go_wp2
          go_ret2
          have HN := HK.out G.out
          exact ⟨A, cp, by rw [HN, G.out]; rfl, by rw [HN]; exact HI6.out, HB6.out⟩
      · have G := Lib.hid (show ppB s = false from ppB_many (by rw [← HLE.out]; exact h4))
        have dL : decide ((4 : Int) < (L : Int)) = true := by simp; omega
        have dL2 : decide (4 < L) = true := by simp; omega
        have hk2 : 4 < k := by omega
        have d4 : decide ((k : Int) ≤ 4) = false := by simp; omega
        have d44 : decide (k ≤ 4) = false := by simp; omega
        clear hlt
        by_cases hq : k < L
        · have d0 : decide (k < L) = true := by simp; omega
          have d00 : decide ((k : Int) < (L : Int)) = true := by simp; omega
          clear hk2 hq
          go_wp2
          go_ret2
          exact HNO.out G.out
        · have d0 : decide (k < L) = false := by simp; omega
          have d00 : decide ((k : Int) < (L : Int)) = false := by simp; omega
          clear hk2 hq
          go_wp2
          go_ret2
          exact HNO.out G.out
end Go.Proofs.YthjfnfhadgmglaaDoor
