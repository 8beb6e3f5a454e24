/- BoundFor, both sides. -/
import Derived.Test.YtlgpejiepogopaaHitC
import Derived.Test.YtlgpejiepogopaaFrac
set_option linter.unusedVariables false
set_option linter.unusedSimpArgs false
set_option linter.unusedSectionVars false
namespace Go.Proofs.Ytlgpejiepogopaa
open Go.RowKit
set_option maxRecDepth 100000 in
theorem l2Less_any (a b : Nat → Int) (ha : ∀ i, i < 2 → 0 ≤ a i ∧ a i ≤ 1000000) (hb : ∀ i, i < 2 → 0 ≤ b i ∧ b i ≤ 1000000) (w : World) : Calls Try.prog 94 #[.agg (row 2 (I a)), .agg (row 2 (I b))] w fun e w' => e = .returned (.bool (decide (a 0 * b 1 < b 0 * a 1))) ∧ Below w.heap.size w w' := by
  obtain ⟨p, hp⟩ : ∃ p, p = a 0 * b 1 := ⟨_, rfl⟩
  obtain ⟨q, hq⟩ : ∃ q, q = b 0 * a 1 := ⟨_, rfl⟩
  obtain ⟨p1, p2⟩ := mul_le (ha 0 (by omega)) (hb 1 (by omega))
  obtain ⟨q1, q2⟩ := mul_le (hb 0 (by omega)) (ha 1 (by omega))
  rw [← hp] at p1 p2
  rw [← hq] at q1 q2
  have hp2 : a 0 * b 1 = p := hp.symm
  have hq2 : b 0 * a 1 = q := hq.symm
  rw [← hp, ← hq]
  clear hp hq ha hb
  go_enter Try.func94, Try.ntmps94
  have BA := Lib.hid (show Blk ((w.alloc (.cells (row 2 (I a)) 51)).alloc (.cells (row 2 (I b)) 51)) w.heap.size 2 51 (I a) from (Blk.new _ _ _ _).alloc _)
  have BB := Lib.hid (show Blk ((w.alloc (.cells (row 2 (I a)) 51)).alloc (.cells (row 2 (I b)) 51)) (w.heap.size + 1) 2 51 (I b) from Blk.newS (by simp))
  have c0 : _ = some (Value.int .i64 (a 0)) := BA.out.cell (i := 0) (by omega)
  have c1 : _ = some (Value.int .i64 (a 1)) := BA.out.cell (i := 1) (by omega)
  have c2 : _ = some (Value.int .i64 (b 0)) := BB.out.cell (i := 0) (by omega)
  have c3 : _ = some (Value.int .i64 (b 1)) := BB.out.cell (i := 1) (by omega)
  go_wp2
  go_ret
  exact ⟨rfl, ((Below.refl _ _).alloc (by omega) _).alloc (by simp) _⟩
theorem made2i {ops : Array Oper} {rest : List Oper} {o : Oper} {a : Act} {w : World} {Q : Exit → Act → World → Prop} (hw : Region.wanted o (yielded ops a.tmps) = true) {x y : Operand} (ho : o.op = .build 51 #[(0, x), (1, y)]) {p q : Int}
    (hx : a.eval x = .int .i64 p) (hy : a.eval y = .int .i64 q) (h : wpList Try.prog ops Q rest (a.put o.dst (.agg (row 2 (I fun i => if i = 0 then p else q)))) w) : wpList Try.prog ops Q (o :: rest) a w :=
  wpList_build_blk hw 51 #[(0, x), (1, y)] ho (by simpa [hx, hy] using made2 p q) h
theorem l2Less_dec (a b : Nat → Int) (ha : ∀ i, i < 2 → 0 ≤ a i ∧ a i ≤ 1000000) (hb : ∀ i, i < 2 → 0 ≤ b i ∧ b i ≤ 1000000) (r : Bool) (hr : decide (a 0 * b 1 < b 0 * a 1) = r) (w : World) : Calls Try.prog 94 #[.agg (row 2 (I a)), .agg (row 2 (I b))] w fun e w' => e = .returned (.bool r) ∧ Below w.heap.size w w' := hr ▸ l2Less_any a b ha hb w
/-- The last below n at which p holds. -/
def lastB (p : Nat → Bool) : Nat → Option Nat
  | 0 => none
  | b + 1 => if p b = true then some b else lastB p b
theorem frac_less {a b t u : Nat} (hb : 0 < b) (ha : a ≤ 10000) (hb2 : b ≤ 10000) (ht : t ≤ 1000) (hu : u ≤ 1000) : decide (fracV a b 0 * (u : Int) < (t : Int) * fracV a b 1) = !decide ((t : Int) * (b : Int) ≤ (a : Int) * (u : Int)) := by
  have hg : 0 < Nat.gcd a b := Nat.gcd_pos_of_pos_right a hb
  obtain ⟨g, hg2⟩ : ∃ g, g = Nat.gcd a b := ⟨_, rfl⟩
  obtain ⟨c, hc⟩ : ∃ c, a = g * c := hg2 ▸ Nat.gcd_dvd_left a b
  obtain ⟨d, hd⟩ : ∃ d, b = g * d := hg2 ▸ Nat.gcd_dvd_right a b
  have f0 : fracV a b 0 = (c : Int) := by
    unfold fracV
    rw [← hg2, if_pos rfl, hc, Nat.mul_div_cancel_left _ (hg2 ▸ hg)]
  have f1 : fracV a b 1 = (d : Int) := by
    unfold fracV
    rw [← hg2, if_neg (by decide), hd, Nat.mul_div_cancel_left _ (hg2 ▸ hg)]
  rw [f0, f1]
  have hgi : (0 : Int) < (g : Int) := by rw [hg2]; omega
  have e : ((t : Int) * (b : Int) ≤ (a : Int) * (u : Int)) ↔ ((t : Int) * (d : Int) ≤ (c : Int) * (u : Int)) := by
    rw [hc, hd, Int.natCast_mul, Int.natCast_mul]
    have h1 : (t : Int) * ((g : Int) * (d : Int)) = (g : Int) * ((t : Int) * (d : Int)) := by rw [Int.mul_left_comm]
    have h2 : (g : Int) * (c : Int) * (u : Int) = (g : Int) * ((c : Int) * (u : Int)) := by rw [Int.mul_assoc]
    rw [h1, h2]
    exact ⟨fun h => Int.le_of_mul_le_mul_left h hgi, fun h => Int.mul_le_mul_of_nonneg_left h (by omega)⟩
  by_cases h : (t : Int) * (d : Int) ≤ (c : Int) * (u : Int)
  · rw [decide_eq_true (e.2 h), decide_eq_false (by omega)]; rfl
  · rw [decide_eq_false (fun h2 => h (e.1 h2)), decide_eq_true (by omega)]; rfl
theorem frac_bd {a b : Nat} (ha : a ≤ 10000) (hb : b ≤ 10000) (i : Nat) : 0 ≤ fracV a b i ∧ fracV a b i ≤ 1000000 := by
  unfold fracV
  have h1 := Int.ofNat_le.2 (Nat.div_le_self a (Nat.gcd a b))
  have h2 := Int.ofNat_le.2 (Nat.div_le_self b (Nat.gcd a b))
  split
  · exact ⟨Int.natCast_nonneg _, Int.le_trans h1 (by omega)⟩
  · exact ⟨Int.natCast_nonneg _, Int.le_trans h2 (by omega)⟩
theorem one_ne : ((1 : Nat) = 0) = False := by simp
/-- Whether so many dice hit bound b with chance y / u at least. -/
def hitsB (n : Nat) (x : Nat → Nat → Int) (k t u : Nat) (b : Nat) : Bool := decide ((t : Int) * (sixN n : Int) ≤ manyF n x (b : Int) k * (u : Int))
def optI : Option Nat → Int
  | none => 0
  | some b => (b : Int)
noncomputable def boundV (n : Nat) (x : Nat → Nat → Int) (z y u : Int) : Option Nat := if (poolB n x) && (inR 1 z 4) && (inR 1 u 1000) && (inR 0 y u) then lastB (hitsB n x z.toNat y.toNat u.toNat) 32 else none
set_option maxHeartbeats 1000000 in
set_option maxRecDepth 100000 in
theorem sBoundFor_any (o : Option Addr) (n c : Nat) (x : Nat → Nat → Int) (hn : n ≤ 1048576) (z y u : Int) (w : World) (h : PoolAt w o n x) : Calls Try.prog 41 #[poolV o n c, .int .i64 z, .int .i64 y, .int .i64 u] w fun e w' => e = .returned (.tuple #[.int .i64 (optI (boundV n x z y u)), .bool (boundV n x z y u).isSome]) ∧ Below w.heap.size w w' := by
  have H := Lib.hid h; clear h
  cases g0 : poolB n x
  · have HZ0 := Lib.hid g0
    clear g0
    have HV := Lib.hid (show boundV n x z y u = none by unfold boundV; rw [show ((poolB n x) && (inR 1 z 4) && (inR 1 u 1000) && (inR 0 y u)) = false by rw [HZ0.out]; rfl]; rfl)
    rw [HV.out]
    go_enter Try.func41, Try.ntmps41
    go_wp2_with fail
    go_at_call 75
    refine (l2Pool_any o n c x hn _ H.out).mono ?_
    rintro e w1 ⟨rfl, hb1⟩
    have HB1 := Lib.hid hb1; clear hb1
    have P1 := Lib.hid (H.out.below HB1.out)
    rw [HZ0.out]
    go_wp2
    go_ret2
    exact ⟨rfl, HB1.out⟩
  · have HZ0 := Lib.hid g0
    cases g1 : inR 1 z 4
    · have HZ1 := Lib.hid g1
      clear g1
      have HV := Lib.hid (show boundV n x z y u = none by unfold boundV; rw [show ((poolB n x) && (inR 1 z 4) && (inR 1 u 1000) && (inR 0 y u)) = false by rw [HZ0.out, HZ1.out]; rfl]; rfl)
      rw [HV.out]
      go_enter Try.func41, Try.ntmps41
      go_wp2_with fail
      go_at_call 75
      refine (l2Pool_any o n c x hn _ H.out).mono ?_
      rintro e w1 ⟨rfl, hb1⟩
      have HB1 := Lib.hid hb1; clear hb1
      have P1 := Lib.hid (H.out.below HB1.out)
      rw [HZ0.out]
      go_wp2_with fail
      go_at_call 85
      refine (inR_s _ _ _ _).mono ?_
      rintro e w' ⟨rfl, rfl⟩
      rw [HZ1.out]
      go_wp2
      go_ret2
      exact ⟨rfl, HB1.out⟩
    · have HZ1 := Lib.hid g1
      clear g1
      cases g2 : inR 1 u 1000
      · have HZ2 := Lib.hid g2
        clear g2
        have HV := Lib.hid (show boundV n x z y u = none by unfold boundV; rw [show ((poolB n x) && (inR 1 z 4) && (inR 1 u 1000) && (inR 0 y u)) = false by rw [HZ0.out, HZ1.out, HZ2.out]; rfl]; rfl)
        rw [HV.out]
        go_enter Try.func41, Try.ntmps41
        go_wp2_with fail
        go_at_call 75
        refine (l2Pool_any o n c x hn _ H.out).mono ?_
        rintro e w1 ⟨rfl, hb1⟩
        have HB1 := Lib.hid hb1; clear hb1
        have P1 := Lib.hid (H.out.below HB1.out)
        rw [HZ0.out]
        go_wp2_with fail
        go_at_call 85
        refine (inR_s _ _ _ _).mono ?_
        rintro e w' ⟨rfl, rfl⟩
        rw [HZ1.out]
        go_wp2_with fail
        go_at_call 85
        refine (inR_s _ _ _ _).mono ?_
        rintro e w' ⟨rfl, rfl⟩
        rw [HZ2.out]
        go_wp2
        go_ret2
        exact ⟨rfl, HB1.out⟩
      · have HZ2 := Lib.hid g2
        clear g2
        cases g3 : inR 0 y u
        · have HZ3 := Lib.hid g3
          clear g3
          have HV := Lib.hid (show boundV n x z y u = none by unfold boundV; rw [show ((poolB n x) && (inR 1 z 4) && (inR 1 u 1000) && (inR 0 y u)) = false by rw [HZ0.out, HZ1.out, HZ2.out, HZ3.out]; rfl]; rfl)
          rw [HV.out]
          go_enter Try.func41, Try.ntmps41
          go_wp2_with fail
          go_at_call 75
          refine (l2Pool_any o n c x hn _ H.out).mono ?_
          rintro e w1 ⟨rfl, hb1⟩
          have HB1 := Lib.hid hb1; clear hb1
          have P1 := Lib.hid (H.out.below HB1.out)
          rw [HZ0.out]
          go_wp2_with fail
          go_at_call 85
          refine (inR_s _ _ _ _).mono ?_
          rintro e w' ⟨rfl, rfl⟩
          rw [HZ1.out]
          go_wp2_with fail
          go_at_call 85
          refine (inR_s _ _ _ _).mono ?_
          rintro e w' ⟨rfl, rfl⟩
          rw [HZ2.out]
          go_wp2_with fail
          go_at_call 85
          refine (inR_s _ _ _ _).mono ?_
          rintro e w' ⟨rfl, rfl⟩
          rw [HZ3.out]
          go_wp2
          go_ret2
          exact ⟨rfl, HB1.out⟩
        · have HZ3 := Lib.hid g3
          clear g3
          have HV := Lib.hid (show boundV n x z y u = lastB (hitsB n x z.toNat y.toNat u.toNat) 32 by unfold boundV; rw [show ((poolB n x) && (inR 1 z 4) && (inR 1 u 1000) && (inR 0 y u)) = true by rw [HZ0.out, HZ1.out, HZ2.out, HZ3.out]; rfl]; rfl)
          rw [HV.out]
          have G1 := Lib.hid g0
          obtain ⟨n1, n4⟩ := pool_le g0
          clear g0 HV
          obtain ⟨k, hk, h1, h4⟩ := inR_nat (by omega) HZ1.out
          subst hk
          have k4 : k ≤ 4 := by omega
          obtain ⟨v, hk, h5, h6⟩ := inR_nat (by omega) HZ2.out
          subst hk
          obtain ⟨t, hk, h7, h8⟩ := inR_nat (by omega) HZ3.out
          subst hk
          simp only [Int.toNat_natCast]
          have s1 := (sixN_le n (by omega)).1
          have s3 := sixN_small n4
          have t1000 : t ≤ 1000 := by omega
          have v1000 : v ≤ 1000 := by omega
          go_enter Try.func41, Try.ntmps41
          go_wp2_with fail
          go_at_call 75
          refine (l2Pool_any o n c x hn _ H.out).mono ?_
          rintro e w1 ⟨rfl, hb1⟩
          have HB1 := Lib.hid hb1; clear hb1
          have P1 := Lib.hid (H.out.below HB1.out)
          rw [HZ0.out]
          go_wp2_with fail
          go_at_call 85
          refine (inR_s _ _ _ _).mono ?_
          rintro e w' ⟨rfl, rfl⟩
          rw [HZ1.out]
          go_wp2_with fail
          go_at_call 85
          refine (inR_s _ _ _ _).mono ?_
          rintro e w' ⟨rfl, rfl⟩
          rw [HZ2.out]
          go_wp2_with fail
          go_at_call 85
          refine (inR_s _ _ _ _).mono ?_
          rintro e w' ⟨rfl, rfl⟩
          rw [HZ3.out]
          go_wp2
          go_loopw [10] (fun i wr => ∃ b : Int, -1 ≤ b ∧ b ≤ 31 ∧ i = .int .i64 b ∧ lastB (hitsB n x k t v) 32 = lastB (hitsB n x k t v) (b + 1).toNat ∧ Below w.heap.size w wr) (fun i _ => (intOf i + 1).toNat)
          case atStart => exact ⟨31, by omega, by omega, rfl, rfl, HB1.out⟩
          case round =>
            obtain ⟨b, hb1, hb2, rfl, hL, hb⟩ := hrel
            have HL := Lib.hid hL; have HB2 := Lib.hid hb
            clear hL hb
            by_cases hpos : 0 ≤ b
            · obtain ⟨q, rfl⟩ := Int.eq_ofNat_of_zero_le hpos
              have d0 : decide ((0 : Int) ≤ (q : Int)) = true := by simp
              obtain ⟨wo, rfl⟩ : ∃ wo : World, wo = wr := ⟨_, rfl⟩
              obtain ⟨m1, m2⟩ := manyF_bd n n4 x (q : Int) k (by omega)
              have HP := Lib.hid (show hitsB n x k t v q = decide ((t : Int) * (sixN n : Int) ≤ manyF n x (q : Int) k * (v : Int)) from rfl)
              have HS := Lib.hid (show lastB (hitsB n x k t v) ((q : Int) + 1).toNat = if hitsB n x k t v q = true then some q else lastB (hitsB n x k t v) q by rw [show ((q : Int) + 1).toNat = q + 1 by omega]; rfl)
              obtain ⟨a, ha⟩ : ∃ a : Nat, a = (manyF n x (q : Int) k).toNat := ⟨_, rfl⟩
              have ham : manyF n x (q : Int) k = (a : Int) := by omega
              have HFb := Lib.hid (show ∀ i, i < 2 → 0 ≤ fracV (manyF n x (q : Int) k).toNat ((sixN n : Int)).toNat i ∧ fracV (manyF n x (q : Int) k).toNat ((sixN n : Int)).toNat i ≤ 1000000 from fun i _ => frac_bd (by omega) (by simp; omega) i)
              have HTb := Lib.hid (show ∀ i, i < 2 → 0 ≤ (fun i : Nat => if i = 0 then (t : Int) else (v : Int)) i ∧ (fun i : Nat => if i = 0 then (t : Int) else (v : Int)) i ≤ 1000000 from fun i _ => by show 0 ≤ (if i = 0 then (t : Int) else (v : Int)) ∧ (if i = 0 then (t : Int) else (v : Int)) ≤ 1000000; split <;> omega)
              have HFL := Lib.hid (show decide (fracV (manyF n x (q : Int) k).toNat ((sixN n : Int)).toNat 0 * (v : Int) < (t : Int) * fracV (manyF n x (q : Int) k).toNat ((sixN n : Int)).toNat 1) = !hitsB n x k t v q by
                rw [HP.out, ham, Int.toNat_natCast, Int.toNat_natCast]
                exact frac_less (by omega) (by omega) (by omega) t1000 v1000)
              clear ha ham
              cases hq : hitsB n x k t v q
              · have HQ := Lib.hid hq
                have HS2 := Lib.hid (hq ▸ HS.out)
                clear hq
                go_wp2_with fail
                go_at_call 95
                refine (l4Chance_any o n c x hn G1.out (q : Int) k k4 _ (H.out.below HB2.out)).mono ?_
                rintro e w2 ⟨rfl, hb2⟩
                have HB3 := Lib.hid (HB2.out.trans (hb2.mono HB2.out.size)); clear hb2
                go_wp2_with (first | (((with_reducible apply made2i); (case hw => rfl); (case ho => rfl); (case hx => rfl); (case hy => rfl))) | fail)
                go_at_call 94
                refine (l2Less_dec _ _ HFb.out HTb.out (!hitsB n x k t v q) HFL.out _).mono ?_
                rintro e w3 ⟨rfl, hb3⟩
                have HB4 := Lib.hid (HB3.out.trans (hb3.mono HB3.out.size)); clear hb3
                rw [HQ.out]
                go_wp2
                go_roundw
                case rel => exact ⟨(q : Int) - 1, by omega, by omega, by go_num, by (rw [HL.out, HS2.out, show ((q : Int) - 1 + 1).toNat = q by omega]) <;> rfl, HB4.out⟩
                case measure => simp [intOf] <;> omega
              · have HQ := Lib.hid hq
                have HS2 := Lib.hid (hq ▸ HS.out)
                clear hq
                go_wp2_with fail
                go_at_call 95
                refine (l4Chance_any o n c x hn G1.out (q : Int) k k4 _ (H.out.below HB2.out)).mono ?_
                rintro e w2 ⟨rfl, hb2⟩
                have HB3 := Lib.hid (HB2.out.trans (hb2.mono HB2.out.size)); clear hb2
                go_wp2_with (first | (((with_reducible apply made2i); (case hw => rfl); (case ho => rfl); (case hx => rfl); (case hy => rfl))) | fail)
                go_at_call 94
                refine (l2Less_dec _ _ HFb.out HTb.out (!hitsB n x k t v q) HFL.out _).mono ?_
                rintro e w3 ⟨rfl, hb3⟩
                have HB4 := Lib.hid (HB3.out.trans (hb3.mono HB3.out.size)); clear hb3
                rw [HQ.out]
                go_wp2
                go_ret2
                exact ⟨by rw [HL.out, HS2.out]; rfl, HB4.out⟩
            · obtain rfl : b = -1 := by omega
              have d0 : decide ((0 : Int) ≤ -1) = false := by decide
              go_wp2
              go_ret2
              exact ⟨by rw [HL.out]; rfl, HB2.out⟩
set_option maxHeartbeats 1000000 in
set_option maxRecDepth 100000 in
theorem iBoundFor_any (o : Option Addr) (n c : Nat) (x : Nat → Nat → Int) (hn : n ≤ 1048576) (z y u : Int) (w : World) (h : PoolAt w o n x) : Calls Try.prog 42 #[poolV o n c, .int .i64 z, .int .i64 y, .int .i64 u] w fun e w' => e = .returned (.tuple #[.int .i64 (optI (boundV n x z y u)), .bool (boundV n x z y u).isSome]) ∧ Below w.heap.size w w' := by
  have H := Lib.hid h; clear h
  cases g0 : poolB n x
  · have HZ0 := Lib.hid g0
    clear g0
    have HV := Lib.hid (show boundV n x z y u = none by unfold boundV; rw [show ((poolB n x) && (inR 1 z 4) && (inR 1 u 1000) && (inR 0 y u)) = false by rw [HZ0.out]; rfl]; rfl)
    rw [HV.out]
    go_enter Try.func42, Try.ntmps42
    go_wp2_with fail
    go_at_call 78
    refine (isPool_any o n c x hn _ H.out).mono ?_
    rintro e w1 ⟨rfl, hb1⟩
    have HB1 := Lib.hid hb1; clear hb1
    have P1 := Lib.hid (H.out.below HB1.out)
    rw [HZ0.out]
    go_wp2
    go_ret2
    exact ⟨rfl, HB1.out⟩
  · have HZ0 := Lib.hid g0
    cases g1 : inR 1 z 4
    · have HZ1 := Lib.hid g1
      clear g1
      have HV := Lib.hid (show boundV n x z y u = none by unfold boundV; rw [show ((poolB n x) && (inR 1 z 4) && (inR 1 u 1000) && (inR 0 y u)) = false by rw [HZ0.out, HZ1.out]; rfl]; rfl)
      rw [HV.out]
      go_enter Try.func42, Try.ntmps42
      go_wp2_with fail
      go_at_call 78
      refine (isPool_any o n c x hn _ H.out).mono ?_
      rintro e w1 ⟨rfl, hb1⟩
      have HB1 := Lib.hid hb1; clear hb1
      have P1 := Lib.hid (H.out.below HB1.out)
      rw [HZ0.out]
      go_wp2_with fail
      go_at_call 87
      refine (inR_i _ _ _ _).mono ?_
      rintro e w' ⟨rfl, rfl⟩
      rw [HZ1.out]
      go_wp2
      go_ret2
      exact ⟨rfl, HB1.out⟩
    · have HZ1 := Lib.hid g1
      clear g1
      cases g2 : inR 1 u 1000
      · have HZ2 := Lib.hid g2
        clear g2
        have HV := Lib.hid (show boundV n x z y u = none by unfold boundV; rw [show ((poolB n x) && (inR 1 z 4) && (inR 1 u 1000) && (inR 0 y u)) = false by rw [HZ0.out, HZ1.out, HZ2.out]; rfl]; rfl)
        rw [HV.out]
        go_enter Try.func42, Try.ntmps42
        go_wp2_with fail
        go_at_call 78
        refine (isPool_any o n c x hn _ H.out).mono ?_
        rintro e w1 ⟨rfl, hb1⟩
        have HB1 := Lib.hid hb1; clear hb1
        have P1 := Lib.hid (H.out.below HB1.out)
        rw [HZ0.out]
        go_wp2_with fail
        go_at_call 87
        refine (inR_i _ _ _ _).mono ?_
        rintro e w' ⟨rfl, rfl⟩
        rw [HZ1.out]
        go_wp2_with fail
        go_at_call 87
        refine (inR_i _ _ _ _).mono ?_
        rintro e w' ⟨rfl, rfl⟩
        rw [HZ2.out]
        go_wp2
        go_ret2
        exact ⟨rfl, HB1.out⟩
      · have HZ2 := Lib.hid g2
        clear g2
        cases g3 : inR 0 y u
        · have HZ3 := Lib.hid g3
          clear g3
          have HV := Lib.hid (show boundV n x z y u = none by unfold boundV; rw [show ((poolB n x) && (inR 1 z 4) && (inR 1 u 1000) && (inR 0 y u)) = false by rw [HZ0.out, HZ1.out, HZ2.out, HZ3.out]; rfl]; rfl)
          rw [HV.out]
          go_enter Try.func42, Try.ntmps42
          go_wp2_with fail
          go_at_call 78
          refine (isPool_any o n c x hn _ H.out).mono ?_
          rintro e w1 ⟨rfl, hb1⟩
          have HB1 := Lib.hid hb1; clear hb1
          have P1 := Lib.hid (H.out.below HB1.out)
          rw [HZ0.out]
          go_wp2_with fail
          go_at_call 87
          refine (inR_i _ _ _ _).mono ?_
          rintro e w' ⟨rfl, rfl⟩
          rw [HZ1.out]
          go_wp2_with fail
          go_at_call 87
          refine (inR_i _ _ _ _).mono ?_
          rintro e w' ⟨rfl, rfl⟩
          rw [HZ2.out]
          go_wp2_with fail
          go_at_call 87
          refine (inR_i _ _ _ _).mono ?_
          rintro e w' ⟨rfl, rfl⟩
          rw [HZ3.out]
          go_wp2
          go_ret2
          exact ⟨rfl, HB1.out⟩
        · have HZ3 := Lib.hid g3
          clear g3
          have HV := Lib.hid (show boundV n x z y u = lastB (hitsB n x z.toNat y.toNat u.toNat) 32 by unfold boundV; rw [show ((poolB n x) && (inR 1 z 4) && (inR 1 u 1000) && (inR 0 y u)) = true by rw [HZ0.out, HZ1.out, HZ2.out, HZ3.out]; rfl]; rfl)
          rw [HV.out]
          have G1 := Lib.hid g0
          obtain ⟨n1, n4⟩ := pool_le g0
          clear g0 HV
          obtain ⟨k, hk, h1, h4⟩ := inR_nat (by omega) HZ1.out
          subst hk
          have k4 : k ≤ 4 := by omega
          obtain ⟨v, hk, h5, h6⟩ := inR_nat (by omega) HZ2.out
          subst hk
          obtain ⟨t, hk, h7, h8⟩ := inR_nat (by omega) HZ3.out
          subst hk
          simp only [Int.toNat_natCast]
          have s1 := (sixN_le n (by omega)).1
          have s3 := sixN_small n4
          have t1000 : t ≤ 1000 := by omega
          have v1000 : v ≤ 1000 := by omega
          go_enter Try.func42, Try.ntmps42
          go_wp2_with fail
          go_at_call 78
          refine (isPool_any o n c x hn _ H.out).mono ?_
          rintro e w1 ⟨rfl, hb1⟩
          have HB1 := Lib.hid hb1; clear hb1
          have P1 := Lib.hid (H.out.below HB1.out)
          rw [HZ0.out]
          go_wp2_with fail
          go_at_call 87
          refine (inR_i _ _ _ _).mono ?_
          rintro e w' ⟨rfl, rfl⟩
          rw [HZ1.out]
          go_wp2_with fail
          go_at_call 87
          refine (inR_i _ _ _ _).mono ?_
          rintro e w' ⟨rfl, rfl⟩
          rw [HZ2.out]
          go_wp2_with fail
          go_at_call 87
          refine (inR_i _ _ _ _).mono ?_
          rintro e w' ⟨rfl, rfl⟩
          rw [HZ3.out]
          go_wp2
          go_loopw [10] (fun i wr => ∃ b : Int, -1 ≤ b ∧ b ≤ 31 ∧ i = .int .i64 b ∧ lastB (hitsB n x k t v) 32 = lastB (hitsB n x k t v) (b + 1).toNat ∧ Below w.heap.size w wr) (fun i _ => (intOf i + 1).toNat)
          case atStart => exact ⟨31, by omega, by omega, rfl, rfl, HB1.out⟩
          case round =>
            obtain ⟨b, hb1, hb2, rfl, hL, hb⟩ := hrel
            have HL := Lib.hid hL; have HB2 := Lib.hid hb
            clear hL hb
            by_cases hpos : 0 ≤ b
            · obtain ⟨q, rfl⟩ := Int.eq_ofNat_of_zero_le hpos
              have d0 : decide ((0 : Int) ≤ (q : Int)) = true := by simp
              obtain ⟨wo, rfl⟩ : ∃ wo : World, wo = wr := ⟨_, rfl⟩
              obtain ⟨m1, m2⟩ := manyF_bd n n4 x (q : Int) k (by omega)
              have HP := Lib.hid (show hitsB n x k t v q = decide ((t : Int) * (sixN n : Int) ≤ manyF n x (q : Int) k * (v : Int)) from rfl)
              have HS := Lib.hid (show lastB (hitsB n x k t v) ((q : Int) + 1).toNat = if hitsB n x k t v q = true then some q else lastB (hitsB n x k t v) q by rw [show ((q : Int) + 1).toNat = q + 1 by omega]; rfl)
              obtain ⟨pa, hpa⟩ : ∃ pa, pa = manyF n x (q : Int) k * (v : Int) := ⟨_, rfl⟩
              obtain ⟨pb, hpb⟩ : ∃ pb, pb = (t : Int) * (sixN n : Int) := ⟨_, rfl⟩
              obtain ⟨a1, a2⟩ := mul_le (A := 6480) (B := 1000) ⟨m1, m2⟩ (b := (v : Int)) (by omega)
              obtain ⟨b1, b2⟩ := mul_le (A := 1000) (B := 1296) (a := (t : Int)) (by omega) (b := (sixN n : Int)) (by omega)
              rw [← hpa] at a1 a2
              rw [← hpb] at b1 b2
              have hpa2 : manyF n x (q : Int) k * (v : Int) = pa := hpa.symm
              have hpb2 : (t : Int) * (sixN n : Int) = pb := hpb.symm
              rw [← hpa, ← hpb] at HP
              clear hpa hpb
              cases hq : hitsB n x k t v q
              · have HQ := Lib.hid hq
                have HS2 := Lib.hid (hq ▸ HS.out)
                have d2 : decide (pb ≤ pa) = false := by rw [← HP.out]; exact hq
                clear hq
                go_wp2_with fail
                go_at_call 96
                refine (atLeast_any o n c x G1.out (q : Int) k k4 _ (H.out.below HB2.out)).mono ?_
                rintro e w2 ⟨rfl, hb2⟩
                have HB4 := Lib.hid (HB2.out.trans (hb2.mono HB2.out.size)); clear hb2
                go_wp2_with fail
                go_at_call 97
                refine (power_any n (by omega) _).mono ?_
                rintro e w' ⟨rfl, rfl⟩
                go_wp2
                go_roundw
                case rel => exact ⟨(q : Int) - 1, by omega, by omega, by go_num, by (rw [HL.out, HS2.out, show ((q : Int) - 1 + 1).toNat = q by omega]) <;> rfl, HB4.out⟩
                case measure => simp [intOf] <;> omega
              · have HQ := Lib.hid hq
                have HS2 := Lib.hid (hq ▸ HS.out)
                have d2 : decide (pb ≤ pa) = true := by rw [← HP.out]; exact hq
                clear hq
                go_wp2_with fail
                go_at_call 96
                refine (atLeast_any o n c x G1.out (q : Int) k k4 _ (H.out.below HB2.out)).mono ?_
                rintro e w2 ⟨rfl, hb2⟩
                have HB4 := Lib.hid (HB2.out.trans (hb2.mono HB2.out.size)); clear hb2
                go_wp2_with fail
                go_at_call 97
                refine (power_any n (by omega) _).mono ?_
                rintro e w' ⟨rfl, rfl⟩
                go_wp2
                go_ret2
                exact ⟨by rw [HL.out, HS2.out]; rfl, HB4.out⟩
            · obtain rfl : b = -1 := by omega
              have d0 : decide ((0 : Int) ≤ -1) = false := by decide
              go_wp2
              go_ret2
              exact ⟨by rw [HL.out]; rfl, HB2.out⟩
end Go.Proofs.Ytlgpejiepogopaa
