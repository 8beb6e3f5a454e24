/- Texts of mine, joined by merge.py. -/
import Derived.Shelf.SlSortCmp.NoneTotal
import Derived.Ground.SlsfProg
import Derived.Test.YtbfhfadfjgfmaaaProg
import Derived.Test.YtbfhfadfjgfmaaaRings
import Derived.Test.YtbfhfadfjgfmaaaLex
/- slices.SortFunc's family at [][]int at this translation: laid as the kit's tool lays it, in plain words. Seat Q alone: the numbers are its own. Written by gen_srtz.py. -/
set_option linter.unusedVariables false
set_option linter.unusedSimpArgs false
set_option linter.unusedSectionVars false
namespace Go.Proofs
open Go.Shelf
def Try.srtZ_ren : Go.Shelf.Ren := ⟨fun | 6 => 72 | 15 => 107 | 14 => 106 | 28 => 130 | 29 => 131 | 20 => 122 | 21 => 123 | 22 => 124 | 23 => 125 | 24 => 126 | 25 => 127 | 26 => 128 | 27 => 129 | 46 => 154 | 47 => 155 | 48 => 156 | 49 => 157 | 50 => 158 | 57 => 174 | n => n, fun | 22 => 47 | 24 => 60 | 25 => 83 | 3 => 3 | 39 => 105 | 0 => 0 | 53 => 123 | 55 => 125 | 4 => 4 | 46 => 117 | 45 => 116 | 50 => 34 | 5 => 5 | 9 => 9 | 66 => 140 | 70 => 144 | 76 => 156 | 77 => 157 | n => n, fun | n => n⟩
theorem Try.srtZ : Go.Proofs.SlLaysF.n6 Try.prog Try.srtZ_ren := {
  mixed := by kernel_rfl
  f6 := ⟨Try.f72.name, by decide, Try.func72.trans (congrArg some (by kernel_rfl))⟩
  f14 := ⟨Try.f106.name, by decide, Try.func106.trans (congrArg some (by kernel_rfl))⟩
  f15 := Try.func107.trans (congrArg some (by kernel_rfl))
  f20 := ⟨Try.f122.name, by decide, Try.func122.trans (congrArg some (by kernel_rfl))⟩
  f21 := ⟨Try.f123.name, by decide, Try.func123.trans (congrArg some (by kernel_rfl))⟩
  f22 := ⟨Try.f124.name, by decide, Try.func124.trans (congrArg some (by kernel_rfl))⟩
  f23 := ⟨Try.f125.name, by decide, Try.func125.trans (congrArg some (by kernel_rfl))⟩
  f24 := ⟨Try.f126.name, by decide, Try.func126.trans (congrArg some (by kernel_rfl))⟩
  f25 := ⟨Try.f127.name, by decide, Try.func127.trans (congrArg some (by kernel_rfl))⟩
  f26 := ⟨Try.f128.name, by decide, Try.func128.trans (congrArg some (by kernel_rfl))⟩
  f27 := ⟨Try.f129.name, by decide, Try.func129.trans (congrArg some (by kernel_rfl))⟩
  f28 := Try.func130.trans (congrArg some (by kernel_rfl))
  f29 := Try.func131.trans (congrArg some (by kernel_rfl))
  f46 := ⟨Try.f154.name, by decide, Try.func154.trans (congrArg some (by kernel_rfl))⟩
  f47 := Try.func155.trans (congrArg some (by kernel_rfl))
  f48 := Try.func156.trans (congrArg some (by kernel_rfl))
  f49 := ⟨Try.f157.name, by decide, Try.func157.trans (congrArg some (by kernel_rfl))⟩
  f50 := ⟨Try.f158.name, by decide, Try.func158.trans (congrArg some (by kernel_rfl))⟩
  f57 := ⟨Try.f174.name, by decide, Try.func174.trans (congrArg some (by kernel_rfl))⟩
  t0 := Try.underlying0
  a0 := Try.isAgg0
  z0 := Try.sizeOf0
  v0 := Try.zeroValue0
  t3 := Try.underlying3
  a3 := Try.isAgg3
  z3 := Try.sizeOf3
  v3 := Try.zeroValue3
  t4 := Try.underlying4
  a4 := Try.isAgg4
  z4 := Try.sizeOf4
  v4 := Try.zeroValue4
  t5 := Try.underlying5
  a5 := Try.isAgg5
  z5 := Try.sizeOf5
  v5 := Try.zeroValue5
  t9 := Try.underlying9
  a9 := Try.isAgg9
  z9 := Try.sizeOf9
  v9 := Try.zeroValue9
  t22 := Try.underlying47
  a22 := Try.isAgg47
  z22 := Try.sizeOf47
  v22 := Try.zeroValue47
  t25 := Try.underlying83
  a24 := Try.isAgg60
  z24 := Try.sizeOf60
  a25 := Try.isAgg83
  z25 := Try.sizeOf83
  v25 := Try.zeroValue83
  t39 := Try.underlying105
  a39 := Try.isAgg105
  z39 := Try.sizeOf105
  v39 := Try.zeroValue105
  t45 := Try.underlying116
  a45 := Try.isAgg116
  z45 := Try.sizeOf116
  v45 := Try.zeroValue116
  t46 := Try.underlying117
  a46 := Try.isAgg117
  z46 := Try.sizeOf117
  v46 := Try.zeroValue117
  t50 := Try.underlying34
  a50 := Try.isAgg34
  z50 := Try.sizeOf34
  v50 := Try.zeroValue34
  t53 := Try.underlying123
  a53 := Try.isAgg123
  z53 := Try.sizeOf123
  v53 := Try.zeroValue123
  t55 := Try.underlying125
  a55 := Try.isAgg125
  z55 := Try.sizeOf125
  v55 := Try.zeroValue125
  t66 := Try.underlying140
  a66 := Try.isAgg140
  z66 := Try.sizeOf140
  v66 := Try.zeroValue140
  t70 := Try.underlying144
  a70 := Try.isAgg144
  z70 := Try.sizeOf144
  v70 := Try.zeroValue144
  t76 := Try.underlying156
  a76 := Try.isAgg156
  z76 := Try.sizeOf156
  v76 := Try.zeroValue156
  t77 := Try.underlying157
  a77 := Try.isAgg157
  z77 := Try.sizeOf157
  v77 := Try.zeroValue157 }
end Go.Proofs

/- slices.Compare at whatever lengths, cmp.Or at two, RingsOf$2, and slices.SortFunc at a [][]int of the call's own. -/
set_option linter.unusedVariables false
set_option linter.unusedSimpArgs false
set_option linter.unusedSectionVars false
namespace Go.Proofs.Ytbfhfadfjgfmaaa
open Go.RowKit Go.Sort Go.Shelf
theorem or2_any (b : Nat) (u v : Int) (w : World) (c0 : w.cell? ⟨b, 0, none⟩ = some (.int .i64 u)) (c1 : w.cell? ⟨b, 1, none⟩ = some (.int .i64 v)) : Calls Try.prog 74 #[.slice (some ⟨b, 0, none⟩) 2 2] w fun e w' => e = .returned (.int .i64 (if u = 0 then v else u)) ∧ w = w' := by
  obtain ⟨r, hr⟩ : ∃ r, r = (if u = 0 then v else u) := ⟨_, rfl⟩
  rw [← hr]
  have HR := Lib.hid hr
  clear hr
  go_enter Try.func74, Try.ntmps74
  go_wp2
  go_loop [8] (fun i => ∃ k : Nat, k ≤ 2 ∧ i = .int .i64 (k : Int) ∧ Hid (0 < k → u = 0) ∧ Hid (1 < k → v = 0)) (fun i => 2 - (intOf i).toNat)
  case atStart => exact ⟨0, by omega, rfl, (fun h => by omega), (fun h => by omega)⟩
  case round =>
    obtain ⟨k, hk, rfl, H0, H1⟩ := hrel
    match k, hk with
    | 0, _ =>
      by_cases e : u = 0
      · have d1 : (u != 0) = false := by simp [e]
        have E := Lib.hid e
        clear e
        go_wp2
        go_round
        case rel => exact ⟨1, by omega, by go_num, (fun _ => E.out), (fun h => by omega)⟩
        case measure => simp [intOf]
      · have d1 : (u != 0) = true := by simpa using e
        have E := Lib.hid e
        clear e
        go_wp2
        go_ret
        exact ⟨by rw [HR.out, if_neg E.out]; rfl, rfl⟩
    | 1, _ =>
      have HU := Lib.hid (H0.out (by omega))
      by_cases e : v = 0
      · have d1 : (v != 0) = false := by simp [e]
        have E := Lib.hid e
        clear e
        go_wp2
        go_round
        case rel => exact ⟨2, by omega, by go_num, (fun _ => HU.out), (fun _ => E.out)⟩
        case measure => simp [intOf]
      · have d1 : (v != 0) = true := by simpa using e
        have E := Lib.hid e
        clear e
        go_wp2
        go_ret
        exact ⟨by rw [HR.out, if_pos HU.out]; rfl, rfl⟩
    | 2, _ =>
      have HU := Lib.hid (H0.out (by omega))
      have HV := Lib.hid (H1.out (by omega))
      go_wp2
      go_ret
      exact ⟨by rw [HR.out, if_pos HU.out, HV.out]; rfl, rfl⟩
theorem drop_at {l : List Nat} {k : Nat} (h : k < l.length) : l.drop k = qF l k :: l.drop (k + 1) := by
  rw [List.drop_eq_getElem_cons h]
  simp [qF, List.getD_eq_getElem?_getD, h]
theorem lexL_step {l1 l2 : List Nat} {k : Nat} (h1 : k < l1.length) (h2 : k < l2.length) (h : lexL l1 l2 = lexL (l1.drop k) (l2.drop k)) (e : qF l1 k = qF l2 k) : lexL l1 l2 = lexL (l1.drop (k + 1)) (l2.drop (k + 1)) := by
  rw [h, drop_at h1, drop_at h2, e]
  simp [lexL]
theorem lexL_stop {l1 l2 : List Nat} {k : Nat} (h1 : k < l1.length) (h2 : k < l2.length) (h : lexL l1 l2 = lexL (l1.drop k) (l2.drop k)) (e : qF l1 k ≠ qF l2 k) : lexL l1 l2 = cmpI (qF l1 k : Int) (qF l2 k : Int) := by
  rw [h, drop_at h1, drop_at h2]
  simp only [lexL, cmpI]
  by_cases q : qF l1 k < qF l2 k
  · rw [if_pos q, if_pos (by omega)]
  · rw [if_neg q, if_pos (by omega), if_neg (by omega), if_pos (by omega)]
theorem compareL_any (l1 l2 : List Nat) (m n : Nat) (hm : l1.length = m) (hn : l2.length = n) (m1 : m ≤ 1000) (n1 : n ≤ 1000) (p1 p2 : Option Addr) (c1 c2 B1 B2 : Nat) (w : World) (h1 : Ints w B1 p1 m c1 (lF l1)) (h2 : Ints w B2 p2 n c2 (lF l2)) :
    Calls Try.prog 76 #[.slice p1 m c1, .slice p2 n c2] w fun e w' => e = .returned (.int .i64 (lexL l1 l2)) ∧ w = w' := by
  have H1 := Lib.hid h1; have H2 := Lib.hid h2; have HM := Lib.hid hm; have HN := Lib.hid hn
  clear h1 h2 hm hn
  obtain ⟨r, hr⟩ : ∃ r, r = lexL l1 l2 := ⟨_, rfl⟩
  rw [← hr]
  have HR := Lib.hid hr
  clear hr
  go_enter Try.func76, Try.ntmps76
  go_wp2
  go_loop [11] (fun i => ∃ k : Nat, k ≤ m ∧ k ≤ n ∧ i = .int .i64 k ∧ Hid (lexL l1 l2 = lexL (l1.drop k) (l2.drop k))) (fun i => m - (intOf i).toNat)
  case atStart => exact ⟨0, by omega, by omega, rfl, rfl⟩
  case round =>
    obtain ⟨k, hk, hkn, rfl, HO⟩ := hrel
    by_cases hlt : k < m
    · have d0 : decide (k < m) = true := by simp; omega
      obtain ⟨g1, rfl, _, _, c00⟩ := H1.out.cell hlt
      obtain ⟨a, ha⟩ : ∃ a, a = qF l1 k := ⟨_, rfl⟩
      have c0 : w.cell? ⟨g1, k, none⟩ = some (.int .i64 (a : Int)) := by rw [c00, ha]; rfl
      have HA := Lib.hid ha
      clear ha c00
      by_cases hlt2 : k < n
      · have d1 : decide (n ≤ k) = false := by simp; omega
        obtain ⟨g2, rfl, _, _, c10⟩ := H2.out.cell hlt2
        obtain ⟨b, hb⟩ : ∃ b, b = qF l2 k := ⟨_, rfl⟩
        have c1 : w.cell? ⟨g2, k, none⟩ = some (.int .i64 (b : Int)) := by rw [c10, hb]; rfl
        have HB := Lib.hid hb
        clear hb c10
        by_cases g : a = b
        · have G := Lib.hid (lexL_step (by rw [HM.out]; exact hlt) (by rw [HN.out]; exact hlt2) HO.out (by rw [← HA.out, ← HB.out]; exact g))
          have Z := Lib.hid ((cmpI_zero (a : Int) (b : Int)).2 (by omega))
          clear g
          go_wp2_with fail
          go_at_call 75
          refine (compare_any _ _ _).mono ?_
          rintro e w' ⟨rfl, rfl⟩
          rw [Z.out]
          go_wp2
          go_round
          case rel => exact ⟨k + 1, by omega, by omega, by go_num, G⟩
          case measure => simp [intOf]; omega
        · have G := Lib.hid (lexL_stop (by rw [HM.out]; exact hlt) (by rw [HN.out]; exact hlt2) HO.out (by rw [← HA.out, ← HB.out]; exact g))
          have Z : (cmpI (a : Int) (b : Int) != 0) = true := by rw [bne_iff_ne]; exact fun h => g (by have := (cmpI_zero _ _).1 h; omega)
          clear g
          go_wp2_with fail
          go_at_call 75
          refine (compare_any _ _ _).mono ?_
          rintro e w' ⟨rfl, rfl⟩
          go_wp2
          go_ret
          exact ⟨by rw [HR.out, G.out, ← HA.out, ← HB.out]; rfl, rfl⟩
      · have d1 : decide (n ≤ k) = true := by simp; omega
        have G := Lib.hid (show lexL l1 l2 = 1 by
          rw [HO.out, drop_at (l := l1) (by rw [HM.out]; exact hlt), show l2.drop k = [] from List.drop_eq_nil_of_le (by rw [HN.out]; omega)]
          rfl)
        go_wp2
        go_ret
        exact ⟨by rw [HR.out, G.out]; rfl, rfl⟩
    · have d0 : decide (k < m) = false := by simp; omega
      by_cases hlt2 : m < n
      · have d1 : decide (m < n) = true := by simp; omega
        have G := Lib.hid (show lexL l1 l2 = -1 by
          rw [HO.out, show l1.drop k = [] from List.drop_eq_nil_of_le (by rw [HM.out]; omega), drop_at (l := l2) (by rw [HN.out]; omega)]
          rfl)
        go_wp2
        go_ret
        exact ⟨by rw [HR.out, G.out]; rfl, rfl⟩
      · have d1 : decide (m < n) = false := by simp; omega
        have G := Lib.hid (show lexL l1 l2 = 0 by
          rw [HO.out, show l1.drop k = [] from List.drop_eq_nil_of_le (by rw [HM.out]; omega), show l2.drop k = [] from List.drop_eq_nil_of_le (by rw [HN.out]; omega)]
          rfl)
        go_wp2
        go_ret
        exact ⟨by rw [HR.out, G.out]; rfl, rfl⟩
theorem cmpR_or (l1 l2 : List Nat) : cmpR l1 l2 = if cmpI (l1.length : Int) (l2.length : Int) = 0 then lexL l1 l2 else cmpI (l1.length : Int) (l2.length : Int) := by
  unfold cmpR cmpI
  by_cases h1 : l1.length < l2.length
  · rw [if_pos h1, if_pos (show (l1.length : Int) < (l2.length : Int) by omega)]; rfl
  · by_cases h2 : l2.length < l1.length
    · rw [if_neg h1, if_pos h2, if_neg (show ¬ (l1.length : Int) < (l2.length : Int) by omega), if_pos (show (l2.length : Int) < (l1.length : Int) by omega)]; rfl
    · rw [if_neg h1, if_neg h2, if_neg (show ¬ (l1.length : Int) < (l2.length : Int) by omega), if_neg (show ¬ (l2.length : Int) < (l1.length : Int) by omega)]; rfl
theorem cmpRing_any (l1 l2 : List Nat) (m n : Nat) (hm : l1.length = m) (hn : l2.length = n) (m1 : m ≤ 1000) (n1 : n ≤ 1000) (p1 p2 : Option Addr) (c1 c2 B1 B2 : Nat) (w : World) (h1 : Ints w B1 p1 m c1 (lF l1)) (h2 : Ints w B2 p2 n c2 (lF l2)) :
    Calls Try.prog 73 #[.slice p1 m c1, .slice p2 n c2] w fun e w' => e = .returned (.int .i64 (cmpR l1 l2)) ∧ ∃ q os', w' = grow (w.drewN q) os' := by
  have HC := Lib.hid (fun w h1 h2 => compareL_any l1 l2 m n hm hn m1 n1 p1 p2 c1 c2 B1 B2 w h1 h2)
  have H1 := Lib.hid h1; have H2 := Lib.hid h2
  have HE := Lib.hid (show cmpR l1 l2 = if cmpI (m : Int) (n : Int) = 0 then lexL l1 l2 else cmpI (m : Int) (n : Int) by rw [← hm, ← hn]; exact cmpR_or l1 l2)
  obtain ⟨u, hu⟩ : ∃ u, u = cmpI (m : Int) (n : Int) := ⟨_, rfl⟩
  obtain ⟨v, hv⟩ : ∃ v, v = lexL l1 l2 := ⟨_, rfl⟩
  rw [← hu, ← hv] at HE
  rw [← hv] at HC
  have HK := Lib.hid (fun w => compare_any (m : Int) (n : Int) w)
  rw [← hu] at HK
  have OR := Lib.hid (fun b w c0 c1 => or2_any b u v w c0 c1)
  obtain ⟨r, hr⟩ : ∃ r, r = (if u = 0 then v else u) := ⟨_, rfl⟩
  rw [← hr] at OR HE
  clear h1 h2 hu hv hm hn hr
  go_enter Try.func73, Try.ntmps73
  go_wp2_with (first | (go_at_call 75; refine (HK.out _).mono ?_; rintro e w' ⟨rfl, rfl⟩) | (go_at_call 76; refine (HC.out _ H1.out H2.out).mono ?_; rintro e w' ⟨rfl, rfl⟩) | (go_at_call 74; refine (OR.out _ _ (by simp) (by simp)).mono ?_; rintro e w' ⟨rfl, rfl⟩) | fail)
  go_ret
  exact ⟨by rw [HE.out]; rfl, 0, #[.cells #[.int .i64 u, .int .i64 v] 3], by rw [alloc_eq_grow]; rfl⟩
end Go.Proofs.Ytbfhfadfjgfmaaa

/- slices.SortFunc at a [][]int of the call's own, by RingsOf$2. -/
set_option linter.unusedVariables false
set_option linter.unusedSimpArgs false
set_option linter.unusedSectionVars false
namespace Go.Proofs.Ytbfhfadfjgfmaaa
open Go.RowKit Go.Sort Go.Shelf
theorem nodup_inj {α : Type} {l : List α} (h : l.Nodup) {i j : Nat} (hi : i < l.length) (hj : j < l.length) (e : l[i] = l[j]) : i = j := by
  have h := List.pairwise_iff_getElem.1 h
  rcases Nat.lt_trichotomy i j with q | q | q
  · exact absurd e (h i j hi hj q)
  · exact q
  · exact absurd e.symm (h j i hj hi q)
theorem sym_ne {a b : Option Nat} (h : b = none ∨ b ≠ a) : a = none ∨ a ≠ b := by
  cases a with
  | none => exact .inl rfl
  | some k =>
    refine .inr fun e => ?_
    subst e
    rcases h with h | h
    · cases h
    · exact h rfl
theorem swo_ring {M : Nat} (Ls : List (List Nat)) : Sort.SWO (ltOf (fun i j : Fin (M + 1) => cmpR (Ls.getD i []) (Ls.getD j []))) where
  irrefl x := decide_eq_false (cmpR_irr _)
  trans x y z h1 h2 := decide_eq_true (cmpR_trans _ _ _ (of_decide_eq_true h1) (of_decide_eq_true h2))
  ntrans x y z h1 h2 := decide_eq_false (cmpR_ntrans _ _ _ (of_decide_eq_false h1) (of_decide_eq_false h2))
theorem heap_sorted1 {α : Type} [Inhabited α] {enc : α → Value} {w : World} {g n : Nat} {os : Array Obj} {cur : Array Value} {e : TypeId} {fr : Nat × Nat} (d : Array α) (hb : w.heap[g]? = some (.cells cur e fr)) :
    (sortWorld enc w g 0 n d os).heap[g]? = some (.cells (putCells enc 0 d cur) e fr) := by
  unfold sortWorld
  have hg : g < w.heap.size := (Array.getElem?_eq_some_iff.1 hb).1
  have hs : (putRow enc (Sort.ahead w n) g 0 d).heap.size = w.heap.size := by simp [putRow, mapBlock, Sort.ahead]
  rw [heap_grow_old _ _ (by rw [hs]; exact hg)]
  simp [putRow, mapBlock, Sort.ahead, Array.getElem?_modify, hb, onCells]
theorem grown_sorted1 {α : Type} [Inhabited α] {enc : α → Value} {w : World} {g n : Nat} {os : Array Obj} (d : Array α) : w.grownBy (sortWorld enc w g 0 n d os) (some g) := by
  unfold sortWorld
  have hs : (putRow enc (Sort.ahead w n) g 0 d).heap.size = w.heap.size := by simp [putRow, mapBlock, Sort.ahead]
  refine ⟨rfl, rfl, rfl, by simp [putRow, mapBlock, Sort.ahead], fun k hk hne => ?_⟩
  rw [heap_grow_old _ _ (by rw [hs]; exact hk)]
  have : g ≠ k := fun e => hne (by rw [e])
  simp [putRow, mapBlock, Sort.ahead, Array.getElem?_modify, this]
theorem own_not_outer {w : World} {B m c g b cp N : Nat} {o : Option Addr} {f : Nat → Int} {F : Nat → Value} (h : Ints w B o m c f) (hb : Blk w g N 60 F) : Value.ownBlock (.slice o m c) = none ∨ Value.ownBlock (.slice o m c) ≠ some g := by
  cases q : Value.ownBlock (.slice o m c) with
  | none => exact .inl rfl
  | some k =>
    refine .inr fun e => ?_
    injection e with e
    subst e
    obtain ⟨cs, h1⟩ := own_typed h q
    unfold Blk at hb
    rw [h1] at hb
    injection hb with hb
    injection hb with _ hb
    exact absurd hb (by decide)
theorem put_row1 {M N : Nat} {enc : Fin (M + 1) → Value} {D : List (Fin (M + 1))} {F : Nat → Value} (hD : D.length = M + 1) (hN : M + 1 ≤ N) : putCells enc 0 D.toArray (row N F) = row N (fun j => if j < M + 1 then enc (D.getD j 0) else F j) := by
  apply Array.ext
  · simp [putCells, row_size]
  · intro j h1 h2
    rw [row_size] at h2
    have e2 : (row N (fun j => if j < M + 1 then enc (D.getD j 0) else F j))[j]'(by rw [row_size]; exact h2) = if j < M + 1 then enc (D.getD j 0) else F j := by simp [row]
    rw [e2]
    have e3 : (row N F)[j]'(by rw [row_size]; exact h2) = F j := by simp [row]
    by_cases c : j < M + 1
    · rw [if_pos c]
      simp [putCells, hD, c, List.getD_eq_getElem?_getD]
    · rw [if_neg c]
      simp [putCells, hD, c, e3]
set_option maxRecDepth 100000 in
theorem sortGrid_any (A : Option Addr) (m c B : Nat) (ad : Nat → Option Addr × Nat) (Ls : List (List Nat)) (w : World) (hG : GridL w B A m c ad Ls) (hm : m ≤ 1000) (hl : ∀ i, i < m → gLen Ls i ≤ 1000) (hnd : Ls.Nodup) :
    Calls Try.prog 72 #[.slice A m c, .func (.func 73) #[] #[]] w fun e w' => e = .returned (.tuple #[]) ∧ w.grownBy w' (Value.ownBlock (.slice A m c)) ∧ ∃ ad' Ls', Ls'.Perm Ls ∧ Ls'.Pairwise (fun x y => ¬ cmpR y x < 0) ∧ GridL w' B A m c ad' Ls' := by
  obtain ⟨hlen, hg⟩ := hG
  cases m with
  | zero =>
    have hL : Ls = [] := List.eq_nil_of_length_eq_zero hlen
    subst hL
    refine (AnyF.slices_SortFunc_none (P := Try.prog) (ρ := Try.srtZ_ren) { Try.srtZ with } A c (.func (.func 73) #[] #[]) w).mono ?_
    rintro e w' ⟨rfl, rfl⟩
    exact ⟨rfl, grown_refl _ _, ad, [], List.Perm.refl _, List.Pairwise.nil, rfl, hg⟩
  | succ M =>
    obtain ⟨g, F, rfl, _, hB, hnc, hcm, hb, hx, hgw⟩ := own_form hg.outer (by omega)
    rw [Nat.mul_one] at hb
    have hF : ∀ i, i < M + 1 → F i = rowSl ad (gLen Ls) i := fun i hi => by
      have := hx i (by omega)
      rw [gridL_get ad _ hi] at this
      exact (Option.some.inj this).symm
    let enc : Fin (M + 1) → Value := fun i => rowSl ad (gLen Ls) i
    let cf : Fin (M + 1) → Fin (M + 1) → Int := fun i j => cmpR (Ls.getD i []) (Ls.getD j [])
    let d : Array (Fin (M + 1)) := (List.finRange (M + 1)).toArray
    have hd : d.size = M + 1 := by simp [d]
    have hH : Holds enc w g 0 d := fun j hj => by
      rw [hd] at hj
      have e : d[j]! = ⟨j, hj⟩ := by
        rw [getElem!_pos d j (by rw [hd]; exact hj)]
        simp [d]
      rw [e, Nat.zero_add]
      refine ⟨?_, hb.free j⟩
      rw [hb.cell (by omega), hF j hj]
    have eg : ∀ args w, (callFunc 73 args).run Try.prog w = .ok (.enter 73 args) w := enters_of Try.func73 (by kernel_rfl) rfl
    have hcmp : CmpLays1 Try.prog 73 #[] enc cf g 0 d.size w := fun q os dk _ x y => by
      have hgr : w.grownBy (sortWorld enc w g 0 q dk os) (some g) := grown_sorted1 dk
      have hi : ∀ z : Fin (M + 1), Ints (sortWorld enc w g 0 q dk os) B (ad z).1 (gLen Ls z) (ad z).2 (lF (Ls.getD z [])) := fun z => (hg.rows z z.2).grown hgr (own_not_outer (b := 0) (cp := 0) (hg.rows z z.2) hb)
      exact cmpRing_any (Ls.getD x []) (Ls.getD y []) (gLen Ls x) (gLen Ls y) rfl rfl (hl x x.2) (hl y y.2) (ad x).1 (ad y).1 (ad x).2 (ad y).2 B B _ (hi x) (hi y)
    have hT : ∀ x y : Fin (M + 1), (ltOf cf) x y = false → (ltOf cf) y x = false → x = y := fun x y h1 h2 => by
      have e := cmpR_total _ _ (of_decide_eq_false h1) (of_decide_eq_false h2)
      have hx : (x : Nat) < Ls.length := by rw [hlen]; exact x.2
      have hy : (y : Nat) < Ls.length := by rw [hlen]; exact y.2
      rw [List.getD_eq_getElem?_getD, List.getElem?_eq_getElem hx, List.getD_eq_getElem?_getD, List.getElem?_eq_getElem hy] at e
      exact Fin.ext (nodup_inj hnd hx hy e)
    have h := Any.slices_SortFunc_total Try.srtZ enc (fun _ => rfl) cf (swo_ring Ls) 73 #[] g 0 c d w eg hcmp hH hgw (by omega) hT
    rw [hd] at h
    refine h.mono ?_
    rintro e w' ⟨rfl, n, os, rfl⟩
    obtain ⟨D, hD⟩ : ∃ D, D = d.toList.mergeSort fun x y => !(ltOf cf) y x := ⟨_, rfl⟩
    rw [← hD]
    have pD : D.Perm (List.finRange (M + 1)) := by rw [hD]; exact List.mergeSort_perm _ _
    have lD : D.length = M + 1 := by rw [pD.length_eq]; simp
    have nD : D.Nodup := pD.nodup_iff.2 (List.nodup_finRange _)
    have hgr : w.grownBy (sortWorld enc w g 0 n D.toArray os) (some g) := grown_sorted1 _
    have hat : ∀ i (hi : i < M + 1), D.getD i 0 = D[i]'(by rw [lD]; exact hi) := fun i hi => by simp [List.getD_eq_getElem?_getD, lD, hi]
    have hLs : ∀ i, i < M + 1 → (D.map fun i : Fin (M + 1) => Ls.getD i []).getD i [] = Ls.getD (D.getD i 0) [] := fun i hi => by
      simp only [List.getD_eq_getElem?_getD, List.getElem?_map]
      rw [List.getElem?_eq_getElem (by rw [lD]; exact hi)]
      rfl
    have hln : ∀ i, i < M + 1 → gLen (D.map fun i : Fin (M + 1) => Ls.getD i []) i = gLen Ls (D.getD i 0) := fun i hi => by unfold gLen; rw [hLs i hi]
    refine ⟨rfl, hgr, fun j => ad (D.getD j 0), D.map (fun i : Fin (M + 1) => Ls.getD i []), ?_, ?_, by simp [lD], ?_, fun i hi => ?_, fun i j hij hj => ?_⟩
    · have e : (List.finRange (M + 1)).map (fun i : Fin (M + 1) => Ls.getD i []) = Ls := by
        apply List.ext_getElem
        · simp [hlen]
        · intro i h1 h2
          simp [List.getD_eq_getElem?_getD, h2]
      have := pD.map (fun i : Fin (M + 1) => Ls.getD i [])
      rw [e] at this
      exact this
    · rw [List.pairwise_map]
      have tr : ∀ a b c : Fin (M + 1), (!(ltOf cf) b a) = true → (!(ltOf cf) c b) = true → (!(ltOf cf) c a) = true := fun a b c h1 h2 => by
        simp only [Bool.not_eq_true'] at *
        exact (swo_ring Ls).ntrans c b a h2 h1
      have to : ∀ a b : Fin (M + 1), ((!(ltOf cf) b a) || (!(ltOf cf) a b)) = true := fun a b => by
        cases e : ltOf cf b a
        · rfl
        · cases e2 : ltOf cf a b
          · rfl
          · have := (swo_ring Ls).trans a b a e2 e
            rw [(swo_ring Ls).irrefl] at this
            cases this
      rw [hD]
      refine (List.pairwise_mergeSort tr to d.toList).imp fun {a b} h => ?_
      simp only [Bool.not_eq_true'] at h
      exact of_decide_eq_false h
    · refine own_of hB hnc hcm (F := fun j => if j < M + 1 then enc (D.getD j 0) else F j) ?_ (by rw [gridL_len, Nat.mul_one]) fun i hi => ?_
      · rw [Nat.mul_one]
        have := heap_sorted1 (enc := enc) (n := n) (os := os) D.toArray hb
        rw [put_row1 lD hnc] at this
        exact this
      · rw [gridL_get _ _ (by omega), if_pos (by omega)]
        simp only [rowSl, hln i (by omega), enc]
    · simp only [hln i hi]
      have := (hg.rows (D.getD i 0) (D.getD i 0).2).grown hgr (own_not_outer (b := 0) (cp := 0) (hg.rows (D.getD i 0) (D.getD i 0).2) hb)
      refine this.congr fun j _ => ?_
      simp only [gF, hLs i hi]
    · simp only [rowSl, hln i (by omega), hln j hj]
      have hne : ((D.getD i 0 : Fin (M + 1)) : Nat) ≠ (D.getD j 0 : Fin (M + 1)) := fun e => by
        have e := Fin.ext e
        rw [hat i (by omega), hat j hj] at e
        have := nodup_inj nD _ _ e
        omega
      rcases Nat.lt_or_gt_of_ne hne with q | q
      · exact hg.sep _ _ q (D.getD j 0).2
      · exact sym_ne (hg.sep _ _ q (D.getD i 0).2)
end Go.Proofs.Ytbfhfadfjgfmaaa
