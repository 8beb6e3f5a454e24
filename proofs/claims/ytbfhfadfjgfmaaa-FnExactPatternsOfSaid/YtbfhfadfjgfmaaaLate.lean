/- Texts of mine, joined by merge.py. -/
import Derived.Test.YtbfhfadfjgfmaaaPat
import Derived.Test.YtbfhfadfjgfmaaaInts
import Derived.Shelf.SlIterI.Collect
import Derived.Maps.OwnIn
import Derived.Ground.GgzProg
import Derived.Test.YtbfhfadfjgfmaaaSort6
import Derived.Maps.OwnOps
import Derived.Maps.OwnSet
import Derived.DeepKeys4
import Derived.WideKeyEntry
import Derived.Test.YtbfhfadfjgfmaaaInv
import Derived.Test.YtbfhfadfjgfmaaaKept
import Derived.Test.YtbfhfadfjgfmaaaRoll
import Derived.Test.YtbfhfadfjgfmaaaBounds
import Derived.Test.YtbfhfadfjgfmaaaLike
import Derived.Test.YtbfhfadfjgfmaaaCut
import Derived.Test.YtbfhfadfjgfmaaaLex
import Derived.Maps.RangeWalk
/- The pattern of a roll: what counting by a map, sorted, comes to is what the reference's count of runs, sorted, comes to. In plain Lean. -/
set_option linter.unusedVariables false
set_option linter.unusedSimpArgs false
set_option linter.unusedSectionVars false
namespace Go.Proofs.Ytbfhfadfjgfmaaa
open Go.RowKit
def TopD (f : Nat → Int) (t : Nat) : Prop := ∀ q p, q < p → p < 4 → t ≤ p → f q ≤ f p
theorem swap_doneD {f : Nat → Int} {t k : Nat} (h : TopD f t) (hk : k < 3) : TopD (swapF f k) t := by
  by_cases hh : f (k + 1) < f k
  · have hkt : k + 1 < t := by
      by_cases c : k + 1 < t
      · exact c
      · have := h k (k + 1) (by omega) (by omega) (by omega); omega
    intro q p hq hp ht
    rw [swap_far f (p := p) (by omega) (by omega)]
    rcases swap_from f k q with e | ⟨e1, e⟩ | ⟨e1, e⟩
    · rw [e]; exact h q p hq hp ht
    · rw [e]; exact h (k + 1) p (by omega) hp ht
    · rw [e]; exact h k p (by omega) hp ht
  · have e : swapF f k = f := by unfold swapF; rw [if_neg hh]
    rw [e]; exact h
theorem pass_doneD {f : Nat → Int} {t : Nat} (h : TopD f t) : ∀ k, k ≤ 3 → TopD (passF f k) t
  | 0, _ => h
  | k + 1, hk => swap_doneD (pass_doneD h k (by omega)) (by omega)
theorem pass_keepD {f : Nat → Int} {t : Nat} (h : TopD f t) (h1 : 1 ≤ t) : ∀ k, t - 1 ≤ k → k ≤ 3 → passF f k = passF f (t - 1)
  | 0, h2, _ => by rw [show t - 1 = 0 by omega]
  | k + 1, h2, h5 => by
    by_cases e : t - 1 = k + 1
    · rw [e]
    · rw [← pass_keepD h h1 k (by omega) (by omega)]
      have hd := pass_doneD h k (by omega)
      have := hd k (k + 1) (by omega) (by omega) (by omega)
      simp only [passF]
      unfold swapF
      rw [if_neg (by omega)]
theorem bub_doneD (d : Nat → Int) : ∀ i, i ≤ 3 → TopD (bubK 3 d i) (4 - i)
  | 0, _ => fun q p _ hp ht => by omega
  | i + 1, hi => by
    have ih := bub_doneD d i (by omega)
    intro q p hq hp ht
    simp only [bubK]
    by_cases e : 4 - i ≤ p
    · exact pass_doneD ih 3 (by omega) q p hq hp e
    · have hp2 : p = 4 - i - 1 := by omega
      rw [pass_keepD ih (by omega) 3 (by omega) (by omega)]
      have := pass_max (bubK 3 d i) (4 - i - 1) q (by omega)
      rw [hp2]
      exact this
theorem pat_desc (f : Nat → Int) (n : Nat) : Desc (patF f n) 4 := by
  have h : TopD (bubK 3 (ngF (cP f n)) 4) 1 := pass_doneD (bub_doneD _ 3 (by omega)) 3 (by omega)
  intro q p hq hp
  have := h q p hq hp (by omega)
  unfold patF
  simp only [ngF] at *
  omega
/-- How often x came up among the first k. -/
def occ (f : Nat → Int) : Nat → Int → Nat
  | 0, _ => 0
  | k + 1, x => occ f k x + (if f k = x then 1 else 0)
theorem occ_hc (f : Nat → Int) (x : Int) : ∀ k, hc f x k = hc f (x + 1) k + occ f k x
  | 0 => rfl
  | k + 1 => by
    have := occ_hc f x k
    simp only [hc, occ]
    split <;> split <;> split <;> omega
theorem occ_pl (f : Nat → Int) (n : Nat) (x : Int) : occ (plF f n) n x = occ f n x := by
  have a := occ_hc (plF f n) x n
  have b := occ_hc f x n
  rw [hc_plF, hc_plF] at a
  omega
theorem occ_none (f : Nat → Int) (x : Int) : ∀ k, (∀ j, j < k → f j ≠ x) → occ f k x = 0
  | 0, _ => rfl
  | k + 1, h => by
    simp only [occ]
    rw [occ_none f x k (fun j hj => h j (by omega)), if_neg (h k (by omega))]
theorem occ_le (f : Nat → Int) (x : Int) : ∀ k, occ f k x ≤ k
  | 0 => Nat.le_refl _
  | k + 1 => by have := occ_le f x k; simp only [occ]; split <;> omega
theorem occ_pos (f : Nat → Int) (x : Int) : ∀ k, 0 < occ f k x ↔ ∃ j, j < k ∧ f j = x
  | 0 => by simp [occ]
  | k + 1 => by
    have ih := occ_pos f x k
    simp only [occ]
    constructor
    · intro h
      by_cases e : f k = x
      · exact ⟨k, by omega, e⟩
      · rw [if_neg e] at h
        obtain ⟨j, h1, h2⟩ := ih.1 (by omega)
        exact ⟨j, by omega, h2⟩
    · rintro ⟨j, h1, h2⟩
      by_cases e : j = k
      · subst e; rw [if_pos h2]; omega
      · have := ih.2 ⟨j, by omega, h2⟩
        omega
/-- Of how many faces at least z came up: told by the order in which they came. -/
def gP (f : Nat → Int) (z : Nat) : Nat → Nat
  | 0 => 0
  | k + 1 => gP f z k + (if occ f k (f k) + 1 = z then 1 else 0)
theorem gP_le (f : Nat → Int) (z : Nat) : ∀ k, gP f z k ≤ k
  | 0 => Nat.le_refl _
  | k + 1 => by have := gP_le f z k; simp only [gP]; split <;> omega
theorem countP_off {L : List Int} {p q : Int → Bool} (h : ∀ x ∈ L, p x = q x) : L.countP p = L.countP q := List.countP_congr (fun x hx => by rw [h x hx])
theorem countP_step {a : Int} {p q : Int → Bool} : ∀ {L : List Int}, L.Nodup → a ∈ L → (∀ x ∈ L, x ≠ a → p x = q x) → L.countP p + (if q a then 1 else 0) = L.countP q + (if p a then 1 else 0)
  | [], _, h, _ => by simp at h
  | y :: L, hnd, ha, h => by
    obtain ⟨h1, h2⟩ := List.nodup_cons.1 hnd
    rw [List.countP_cons, List.countP_cons]
    by_cases e : y = a
    · subst e
      rw [countP_off (fun x hx => h x (by simp [hx]) (fun e => h1 (e ▸ hx)))]
      omega
    · have h3 : a ∈ L := by simpa [Ne.symm e] using ha
      have := countP_step h2 h3 (fun x hx hne => h x (by simp [hx]) hne)
      rw [h y (by simp) e]
      omega
theorem gP_count (f : Nat → Int) (z : Nat) (hz : 1 ≤ z) {L : List Int} (hnd : L.Nodup) : ∀ k, (∀ j, j < k → f j ∈ L) → L.countP (fun x => decide (z ≤ occ f k x)) = gP f z k
  | 0, _ => by
    simp only [gP, occ]
    rw [List.countP_eq_zero]
    intro x _
    simp; omega
  | k + 1, h => by
    have ih := gP_count f z hz hnd k (fun j hj => h j (by omega))
    have hs := countP_step (a := f k) (p := fun x => decide (z ≤ occ f (k + 1) x)) (q := fun x => decide (z ≤ occ f k x)) hnd (h k (by omega)) (fun x _ hne => by
      have e : occ f (k + 1) x = occ f k x := by simp only [occ]; rw [if_neg (fun e => hne e.symm)]; rfl
      simp only [e])
    rw [ih] at hs
    simp only [gP]
    simp only [occ, decide_eq_true_eq, if_true] at hs ⊢
    split at hs <;> split at hs <;> split <;> omega
theorem cover_list (f : Nat → Int) : ∀ k, ∃ L : List Int, L.Nodup ∧ ∀ j, j < k → f j ∈ L
  | 0 => ⟨[], List.nodup_nil, fun j h => by omega⟩
  | k + 1 => by
    obtain ⟨L, h1, h2⟩ := cover_list f k
    by_cases e : f k ∈ L
    · exact ⟨L, h1, fun j hj => by by_cases c : j = k; (subst c; exact e); exact h2 j (by omega)⟩
    · exact ⟨f k :: L, List.nodup_cons.2 ⟨e, h1⟩, fun j hj => by by_cases c : j = k; (subst c; simp); exact List.mem_cons_of_mem _ (h2 j (by omega))⟩
theorem gP_pl (f : Nat → Int) (z : Nat) (hz : 1 ≤ z) (n : Nat) : gP (plF f n) z n = gP f z n := by
  obtain ⟨L, h1, h2⟩ := cover_list f n
  rw [← gP_count f z hz h1 n h2, ← gP_count (plF f n) z hz h1 n (fun j hj => by
    obtain ⟨i, h3, h4⟩ := plF_mem f n j hj
    rw [h4]; exact h2 i h3)]
  exact countP_off (fun x _ => by rw [occ_pl])
theorem hc_upd (F : Nat → Int) (z : Int) (i : Nat) (v : Int) : ∀ n, hc (upd F i v) z n + (if i < n then ind z (F i) else 0) = hc F z n + (if i < n then ind z v else 0)
  | 0 => by simp [hc]
  | n + 1 => by
    have ih := hc_upd F z i v n
    rw [hc_succ, hc_succ]
    by_cases e : i = n
    · subst e
      rw [if_neg (by omega), if_neg (by omega)] at ih
      rw [if_pos (by omega), if_pos (by omega)]
      simp only [upd, if_true]
      omega
    · have : upd F i v n = F n := by simp only [upd]; rw [if_neg (fun q => e q.symm)]
      rw [this]
      by_cases c : i < n
      · rw [if_pos c, if_pos c] at ih; rw [if_pos (by omega), if_pos (by omega)]; omega
      · rw [if_neg c, if_neg c] at ih; rw [if_neg (by omega), if_neg (by omega)]; omega
/-- The run to which number k belongs holds as many as came up of it. -/
theorem run_occ (f : Nat → Int) {n : Nat} (hd : Desc f n) : ∀ k, k < n → cP f k (runN f (k + 1) - 1) = (occ f k (f k) : Nat)
  | 0, _ => by simp [cP, occ]
  | k + 1, h => by
    have ih := run_occ f hd k (by omega)
    have hp := runN_pos f (k + 1) (by omega)
    by_cases e : f (k + 1) = f k
    · have hr : runN f (k + 1 + 1) = runN f (k + 1) := by
        show runN f (k + 1) + (if k + 1 = 0 ∨ f (k + 1) ≠ f (k + 1 - 1) then 1 else 0) = _
        rw [if_neg (by simp [e])]
        rfl
      rw [hr]
      simp only [cP, upd, if_true, occ]
      rw [e, if_pos rfl, ih]
      omega
    · have hr : runN f (k + 1 + 1) = runN f (k + 1) + 1 := by
        show runN f (k + 1) + (if k + 1 = 0 ∨ f (k + 1) ≠ f (k + 1 - 1) then 1 else 0) = _
        rw [if_pos (.inr (by simpa using e))]
      rw [hr, Nat.add_sub_cancel]
      have hc := cP_pos f (k + 1) (runN f (k + 1))
      rw [occ_none f _ (k + 1) (fun j hj q => by
        have a1 := hd k (k + 1) (by omega) h
        by_cases c : j = k
        · subst c; exact e q.symm
        · have a2 := hd j k (by omega) (by omega)
          omega)]
      omega
theorem cP_gP (f : Nat → Int) {n : Nat} (hd : Desc f n) (hn : n ≤ 4) (z : Nat) : ∀ k, k ≤ n → 1 ≤ z → hc (cP f k) (z : Int) 4 = gP f z k
  | 0, _, hz => by
    have := hc_none (F := cP f 0) (z := (z : Int)) (p := 0) 4 (fun q _ _ => by simp only [cP]; omega)
    simp only [gP]
    omega
  | k + 1, h, hz => by
    have ih := cP_gP f hd hn z k (by omega) hz
    have ho := run_occ f hd k (by omega)
    have hl := runN_le f (k + 1)
    have hp := runN_pos f (k + 1) (by omega)
    have hu := hc_upd (cP f k) (z : Int) (runN f (k + 1) - 1) (cP f k (runN f (k + 1) - 1) + 1) 4
    rw [if_pos (by omega), if_pos (by omega), ho, ih] at hu
    simp only [cP, gP]
    rw [ho]
    unfold ind at hu
    split at hu <;> split at hu <;> split <;> omega
theorem pat_gP (f : Nat → Int) {n : Nat} (hd : Desc f n) (hn : n ≤ 4) (z : Nat) (hz : 1 ≤ z) : hc (patF f n) (z : Int) 4 = gP f z n := by
  unfold patF
  rw [hc_bub4, ng_ng]
  exact cP_gP f hd hn z n (Nat.le_refl _) hz
/-- The first m of s, then zeros. -/
def extZ (m : Nat) (s : Nat → Int) : Nat → Int := fun p => if p < m then s p else 0
theorem hc_ext (m : Nat) (s : Nat → Int) (z : Int) (hz : 1 ≤ z) : ∀ n, hc (extZ m s) z n = hc s z (min m n)
  | 0 => by simp [hc]
  | n + 1 => by
    have ih := hc_ext m s z hz n
    rw [hc_succ, ih]
    by_cases c : n < m
    · rw [show min m (n + 1) = n + 1 by omega, show min m n = n by omega, hc_succ]
      simp only [extZ, if_pos c]
    · rw [show min m (n + 1) = m by omega, show min m n = m by omega]
      simp only [extZ, if_neg c, ind]
      rw [if_neg (by omega)]
      rfl
theorem pat_sorted (f : Nat → Int) {n : Nat} (hn : n ≤ 4) (m : Nat) (s : Nat → Int) (hm : m ≤ 4) (h0 : ∀ j, j < m → 0 ≤ s j) (hs : ∀ z : Nat, 1 ≤ z → hc s (z : Int) m = gP f z n) (p : Nat) (hp : p < 4) :
    extZ m (plF s m) p = patF (plF f n) n p := by
  have hpl : ∀ j, j < m → 0 ≤ plF s m j := fun j hj => by
    obtain ⟨i, h1, h2⟩ := plF_mem s m j hj
    rw [h2]; exact h0 i h1
  have hge : ∀ j, 0 ≤ extZ m (plF s m) j := fun j => by
    simp only [extZ]; split
    · rename_i h; exact hpl j h
    · omega
  refine desc_eq (fun q p hq hp => ?_) (pat_desc _ n) (fun z => ?_) p hp
  · simp only [extZ]
    by_cases c : p < m
    · rw [if_pos c, if_pos (by omega)]; exact plF_desc s m q p hq c
    · rw [if_neg c]; exact hge q
  · by_cases c : z ≤ 0
    · rw [hc_all 4 (fun q _ => Int.le_trans c (hge q)), hc_all 4 (fun q _ => Int.le_trans c (patF_bd (plF f n) n q).1)]
    · obtain ⟨y, rfl⟩ : ∃ y : Nat, z = (y : Int) := ⟨z.toNat, by omega⟩
      rw [hc_ext _ _ _ (by omega), show min m 4 = m by omega, hc_plF, hs y (by omega), pat_gP _ (plF_desc f n) hn y (by omega), gP_pl f y (by omega)]
theorem hc_list (z : Int) : ∀ (l : List Int), hc (fun i => l.getD i 0) z l.length = l.countP (fun x => decide (z ≤ x)) := by
  have key : ∀ (l : List Int) k, k ≤ l.length → hc (fun i => l.getD i 0) z k = (l.take k).countP (fun x => decide (z ≤ x)) := by
    intro l k
    induction k with
    | zero => intro _; simp [hc]
    | succ k ih =>
      intro h
      rw [hc_succ, ih (by omega), List.take_succ_eq_append_getElem (by omega), List.countP_append]
      simp [ind, List.getD_eq_getElem?_getD, List.getElem?_eq_getElem (show k < l.length by omega), List.countP_cons]
  intro l
  rw [key l l.length (Nat.le_refl _), List.take_length]
theorem vals_hc (f : Nat → Int) (n : Nat) (ps : List (Int × Int)) (hnd : (ps.map (·.1)).Nodup) (hk : ∀ x, x ∈ ps.map (·.1) ↔ ∃ j, j < n ∧ f j = x) (hv : ∀ p ∈ ps, p.2 = (occ f n p.1 : Nat)) (z : Nat) (hz : 1 ≤ z) :
    hc (fun i => (ps.map (·.2)).getD i 0) (z : Int) (ps.map (·.2)).length = gP f z n := by
  rw [hc_list, ← gP_count f z hz hnd n (fun j hj => (hk _).2 ⟨j, hj, rfl⟩), List.countP_map, List.countP_map]
  exact List.countP_congr (fun p hp => by
    simp only [Function.comp, decide_eq_true_eq]
    rw [hv p hp]
    omega)
end Go.Proofs.Ytbfhfadfjgfmaaa

/- maps.Values of a map[int]int, collected by slices.Collect: the values, each key's once, in some order. -/
set_option linter.unusedVariables false
set_option linter.unusedSimpArgs false
set_option linter.unusedSectionVars false
namespace Go.Proofs.Ytbfhfadfjgfmaaa
open Go.RowKit Go.Maps Go.Sort Go.Shelf
def colRen : Ren := ⟨fun | 8 => 116 | 11 => 144 | n => n, fun | 0 => 0 | 24 => 60 | 26 => 3 | 28 => 96 | 33 => 106 | n => n, fun n => n⟩
theorem colL : SlLaysZI.n8 Try.prog colRen := {
  mixed := by kernel_rfl
  f8 := ⟨ "slices.Collect[int]", rfl, Try.func116.trans (congrArg some (by kernel_rfl))⟩
  f11 := ⟨ "slices.AppendSeq[[]int,int]", rfl, Try.func144.trans (congrArg some (by kernel_rfl))⟩
  t0 := Try.underlying0
  a0 := Try.isAgg0
  z0 := Try.sizeOf0
  v0 := Try.zeroValue0
  t24 := Try.underlying60
  a24 := Try.isAgg60
  z24 := Try.sizeOf60
  v24 := Try.zeroValue60
  t26 := Try.underlying3
  a26 := Try.isAgg3
  z26 := Try.sizeOf3
  v26 := Try.zeroValue3
  t28 := Try.underlying96
  a28 := Try.isAgg96
  z28 := Try.sizeOf96
  v28 := Try.zeroValue96
  i26 := by kernel_rfl }
/-- The values of a map, with their keys: each key once. -/
def ValsOf {H : Type} (D0 : DataW H) (xs : List Int) : Prop := ∃ ps : List (Int × Int), xs = ps.map (·.2) ∧ (ps.map (·.1)).Nodup ∧ (∀ x, x ∈ ps.map (·.1) ↔ has D0 (.int .i64 x) = true) ∧ ∀ p ∈ ps, ∀ zd, D0.atKey (.int .i64 p.1) zd = .lit (.int .i64 p.2)
set_option maxRecDepth 100000 in
set_option maxHeartbeats 1000000 in
theorem vals1_in {H : Type} (F : Fence) (n : Nat) (h10 : F.fn 118) (hro : F.round = none) (hn : 1 ≤ n) (l Bm b nn : Nat) (D0 : DataW H) (J : List Int → World → Prop)
    (hY : ∀ pre x W, J pre W → pre.length < Maps.size D0 → YieldAt F (n - 1) Try.prog l #[encZ x] W fun e W' => e = .returned (.bool true) ∧ J (pre ++ [x]) W' ∧ KeepsWalks W W')
    (W : World) (hJ : AbidesFrom W.heap.size J) (hm : W.cell? ⟨Bm, 0, none⟩ = some (.map (some b))) (hown : W.ownsMap Try.prog 3 (plainElem Try.prog 3) b nn D0) (h0 : J [] W) :
    CallsIn F n Try.prog 118 #[.func (.yield l) #[] #[], .pointer (some ⟨Bm, 0, none⟩)] W fun e W' => (∃ v, e = .returned v) ∧ ∃ xs : List Int, ValsOf D0 xs ∧ J xs W' := by
  refine callsIn_of_wp Try.func118 rfl h10 ?_ hro
  simp only [Try.ntmps118, List.size_toArray, List.length_cons, List.length_nil, Nat.reduceAdd, Nat.reduceSub, Array.replicate_succ, Array.replicate_zero, List.push_toArray, List.append_toArray, List.nil_append, List.cons_append]
  gi_wp2_with (first
    | (gi_at_range; refine wpListIn_range_own _ rfl _ 93 rfl 3 3 (int_keyed Try.underlying3) Try.underlying93 _ b nn _ rfl hown ?_; intro w0 hrg0 hg0 hs0)
    | gi_in)
  go_frame
  gi_loopw [4] (fun _ wr => ∃ (left : Lit → Bool) (cnt : Nat) (ps : List (Int × Int)), wr.ranges Try.prog 3 (plainElem Try.prog 3) b W.heap.size nn D0 left cnt ∧ ps.length + cnt ≤ Maps.size D0 ∧ CollectedI D0 left (ps.map (·.1)) ∧ (∀ p ∈ ps, ∀ zd, D0.atKey (.int .i64 p.1) zd = .lit (.int .i64 p.2)) ∧ J (ps.map (·.2)) wr)
    (fun _ wr => wr.rangeLeft b W.heap.size)
  case atStart =>
    exact ⟨_, _, [], hrg0, by simp, CollectedI.start D0, by simp, hJ [] W w0 none h0 hg0 (fun r e => by cases e)⟩
  case round =>
    obtain ⟨left, cnt, ps, hrg, hcs, hC, hV, hJs⟩ := hrel
    gi_wp2_with (first
      | (gi_at_next; refine wpListIn_next_ranges _ rfl _ rfl 3 (int_keyed Try.underlying3) (plainElem Try.prog 3) encZ (Value.int .i64) (fun key kl hk => by obtain ⟨x, hx, _⟩ := Maps.keyOf_i64 Try.underlying3 hk; exact ⟨x, hx⟩) (fun v y hv => by obtain ⟨c, rfl, _⟩ := plainElem_int_inv Try.underlying3 hv; exact ⟨c, rfl⟩) b W.heap.size nn _ _ _ rfl hrg ?_ ?_)
      | gi_in)
    · intro hc0 hl0
      gi_wp2
      go_end0
      exact ⟨⟨_, rfl⟩, _, ⟨ps, rfl, hC.1, fun x => by rw [hC.2 x, hl0]; simp, hV⟩, hJs⟩
    · intro x c kl yd yp w2 cnt2 hkey hlk hv hat hrg2 hlt hg2 hs2 hen
      obtain ⟨x', ex, rfl, _⟩ := Maps.keyOf_i64 Try.underlying3 hkey
      obtain rfl : x = x' := encZ_inj ex
      obtain ⟨c', ec, ez, _⟩ := plainElem_int_inv Try.underlying3 hv
      obtain rfl : c = c' := by simpa using ec
      obtain rfl : yd = .lit (.int .i64 c) := (Prod.mk.inj ez).1
      have hJ2 : J (ps.map (·.2)) w2 := hJ _ wr w2 (some W.heap.size) hJs hg2 (fun r e => by cases e; exact ⟨Nat.le_refl _, hrg.iter_walk⟩)
      obtain ⟨fn, tmps, assign, body, hy, hR⟩ := hY (ps.map (·.2)) c w2 hJ2 (by simp; omega)
      clear hs2
      gi_wp2
      refine hR.mono ?_
      have hC2 : CollectedI D0 (fun z => left z && !z.sameKey (.int .i64 x)) ((ps ++ [(x, c)]).map (·.1)) := by simpa using hC.step hlk hat
      have hV2 : ∀ p ∈ ps ++ [(x, c)], ∀ zd, D0.atKey (.int .i64 p.1) zd = .lit (.int .i64 p.2) := fun p hp => (List.mem_append.1 hp).elim (hV p) (fun e => by simp at e; subst e; exact hat)
      rintro e W3 ⟨rfl, hJ3, hk3⟩
      gi_wp2
      have hrg3 := hrg2.of_walks hk3
      go_roundw
      case rel => exact ⟨_, cnt2, ps ++ [(x, c)], hrg3, by simp; omega, hC2, hV2, by simpa using hJ3⟩
      case measure => rw [hrg3.left_eq, hrg.left_eq]; exact hlt
theorem vals_gives {H : Type} (F : Fence) (n : Nat) (h10 : F.fn 118) (hro : F.round = none) (hn : 1 ≤ n) (Bm b nn : Nat) (D0 : DataW H) (w : World) (hBm : Bm < w.heap.size)
    (hm : w.cell? ⟨Bm, 0, none⟩ = some (.map (some b))) (hown : w.ownsMap Try.prog 3 (plainElem Try.prog 3) b nn D0) :
    SeqGives F n Try.prog 118 #[.pointer (some ⟨Bm, 0, none⟩)] encZ (ValsOf D0) (Maps.size D0) w := fun l J W hW hJ hY h0 => by
  have hown' : W.ownsMap Try.prog 3 (plainElem Try.prog 3) b nn D0 := by
    have hbl := hown.lt
    obtain ⟨es, clock, hb, Ft, hs, hD⟩ := hown
    exact ⟨es, clock, (hW.block b hbl).trans hb, Ft, hs, hD⟩
  exact vals1_in F n h10 hro hn l Bm b nn D0 J hY W hJ ((hW.cell (p := ⟨Bm, 0, none⟩) hBm).trans hm) hown' h0
theorem collectVals_any {H : Type} (Bm b nn : Nat) (D0 : DataW H) (hN : Maps.size D0 ≤ 1000) (w : World) (hBm : Bm < w.heap.size) (hm : w.cell? ⟨Bm, 0, none⟩ = some (.map (some b))) (hown : w.ownsMap Try.prog 3 (plainElem Try.prog 3) b nn D0) :
    Calls Try.prog 116 #[.func (.func 118) #[] #[.pointer (some ⟨Bm, 0, none⟩)]] w fun e w' => ∃ (v : Value) (ss : List Int), e = .returned v ∧ ValsOf D0 ss ∧ w'.ownsRow w.heap.size 3 1 v ss.length (ss.map encZ) ∧ (v = .slice none 0 0 ↔ ss = []) ∧ Below w.heap.size w w' :=
  (callsIn_wide (n := 6)).1 (AnyZI.collect_in colL Fence.wide 6 trivial trivial rfl (by omega) 118 _ trivial (enters_of Try.func118 (by kernel_rfl) rfl) (ValsOf D0) (Maps.size D0) (by simp only [maxLen]; omega) (by omega) w
    (vals_gives Fence.wide _ trivial rfl (by omega) Bm b nn D0 w hBm hm hown))
theorem values_any (mb : Option Nat) (w : World) : Calls Try.prog 93 #[.map mb] w fun e w' => e = .returned (.func (.func 118) #[] #[.pointer (some ⟨w.heap.size, 0, none⟩)]) ∧ w' = w.alloc (.cells #[.map mb] 93) := by
  go_enter Try.func93, Try.ntmps93
  go_wp2
  go_ret
  exact ⟨rfl, rfl⟩
end Go.Proofs.Ytbfhfadfjgfmaaa

/- slices.SortedFunc of a map's values, in descending order. -/
set_option linter.unusedVariables false
set_option linter.unusedSimpArgs false
set_option linter.unusedSectionVars false
namespace Go.Proofs.Ytbfhfadfjgfmaaa
open Go.RowKit Go.Maps
theorem sortedVals_any {H : Type} (Bm b nn : Nat) (D0 : DataW H) (hN : Maps.size D0 ≤ 12) (hD : ∀ ss, ValsOf D0 ss → 1 ≤ ss.length ∧ ss.length ≤ 12 ∧ ∀ x ∈ ss, -1000000 ≤ x ∧ x ≤ 1000000) (w : World) (hBm : Bm < w.heap.size) (hm : w.cell? ⟨Bm, 0, none⟩ = some (.map (some b))) (hown : w.ownsMap Try.prog 3 (plainElem Try.prog 3) b nn D0) :
    Calls Try.prog 92 #[.func (.func 118) #[] #[.pointer (some ⟨Bm, 0, none⟩)], downP] w fun e w' => ∃ (g cap : Nat) (ss : List Int), e = .returned (.slice (some ⟨g, 0, none⟩) ss.length cap) ∧ ValsOf D0 ss ∧ w.heap.size ≤ g ∧ Ro w' g ss.length 3 (I (plF (fun i => ss.getD i 0) ss.length)) ∧ Below w.heap.size w w' := by
  have HW := Lib.hid hown; clear hown
  have HD := Lib.hid hD; clear hD
  have HM := Lib.hid hm; clear hm
  go_enter Try.func92, Try.ntmps92
  go_wp2_with fail
  go_at_call 116
  refine (collectVals_any Bm b nn D0 (by omega) _ hBm HM.out HW.out).mono ?_
  rintro e w1 ⟨v, ss, rfl, hv, ho, hnil, hb⟩
  obtain ⟨h1, h2, h3⟩ := HD.out ss hv
  obtain ⟨g, cap, rfl, hg⟩ : ∃ g cap, v = .slice (some ⟨g, 0, none⟩) ss.length cap ∧ w.heap.size ≤ g := by
    rcases ho.2 with ⟨_, h0⟩ | ⟨g, cap, cur, hv, hb, _⟩
    · omega
    · exact ⟨g, cap, hv, hb⟩
  obtain ⟨g', F, he, -, -, hnc, hcm, hB, hx, -⟩ := own_form ho (by omega)
  injection he with he
  injection he with he _
  subst he
  have HR := Lib.hid (show Ro w1 g ss.length 3 (I fun i => ss.getD i 0) from ⟨cap * 1, F, by omega, hB, fun p hp => by
    have := hx p (by omega)
    rw [List.getElem?_map, List.getElem?_eq_getElem hp] at this
    simp only [Option.map, Option.some.injEq] at this
    rw [← this]
    simp [I, encZ, List.getD_eq_getElem?_getD, hp]⟩)
  have HV := Lib.hid hv; have HB := Lib.hid hb; have HG := Lib.hid hg
  have HD3 := Lib.hid h3
  clear hB hx ho hv hb hnil hg h3
  go_wp2_with fail
  go_at_call 117
  refine (sortRo_any g ss.length cap (fun i => ss.getD i 0) h2 (fun j hj => HD3.out _ (by simp [List.getD_eq_getElem?_getD, hj])) _ HR.out).mono ?_
  rintro e w2 ⟨rfl, hR2, hG2⟩
  go_wp2
  go_ret
  exact ⟨g, cap, ss, rfl, HV.out, HG.out, hR2, below_grown HB.out hG2 (fun k e => by cases e; exact HG.out) HB.out.size⟩
end Go.Proofs.Ytbfhfadfjgfmaaa

/- The program's patternOf: it counts by a map, sorts the counts, and writes them into four places. -/
set_option linter.unusedVariables false
set_option linter.unusedSimpArgs false
set_option linter.unusedSectionVars false
namespace Go.Proofs.Ytbfhfadfjgfmaaa
open Go.RowKit Go.Maps
theorem wf_int (x : Int) (h : -1000000 ≤ x ∧ x ≤ 1000000) : (Lit.int .i64 x).wf = true := by
  simp only [Lit.wf, IntKind.min, IntKind.max, IntKind.signed, IntKind.bits, Bool.and_eq_true, decide_eq_true_eq, if_true]
  omega
theorem keyLit (x : Int) : WideAt.IsKeyLit (.int .i64 x) := trivial
/-- The map that holds how often each of the first k came up. -/
def CntOf (f : Nat → Int) (k : Nat) (D : DataW Unit) : Prop := Tidy D ∧ (∀ x : Int, D.atKey (.int .i64 x) (.lit (.int .i64 0)) = .lit (.int .i64 (occ f k x : Nat))) ∧ (∀ x : Int, has D (.int .i64 x) = decide (0 < occ f k x)) ∧ Maps.size D ≤ k
theorem cntOf_zero (f : Nat → Int) : CntOf f 0 (.map []) := ⟨tidy_empty, fun x => rfl, fun x => rfl, Nat.le_refl _⟩
theorem cntOf_step {f : Nat → Int} {k : Nat} {D : DataW Unit} (h : CntOf f k D) : CntOf f (k + 1) (D.put (.int .i64 (f k)) (.lit (.int .i64 ((occ f k (f k) : Nat) + 1)))) := by
  obtain ⟨h1, h2, h3, h4⟩ := h
  refine ⟨h1.put (keyLit _) _, fun x => ?_, fun x => ?_, ?_⟩
  · by_cases e : x = f k
    · subst e
      rw [atKey_put_same h1.isMap (keyLit _)]
      simp [occ]
    · rw [atKey_put_other (fun q => e (by injection q)), h2 x]
      simp only [occ]
      rw [if_neg (fun q => e q.symm)]
      rfl
  · by_cases e : x = f k
    · subst e
      rw [has_put_same h1.isMap (keyLit _)]
      simp [occ]
    · have eo : occ f (k + 1) x = occ f k x := by simp only [occ]; rw [if_neg (fun q => e q.symm)]; rfl
      rw [has_put_other (fun q => e (by injection q)), h3 x, eo]
  · rw [size_put h1]
    split <;> omega
theorem cnt_at {f : Nat → Int} {k : Nat} {D : DataW Unit} {x c : Int} (h : CntOf f k D) (hat : D.atKey (.int .i64 x) (.lit (.int .i64 0)) = .lit (.int .i64 c)) : c = (occ f k x : Nat) := by
  rw [h.2.1] at hat
  injection hat with hat
  injection hat with _ hat
  exact hat.symm
theorem cnt_elem (o k : Nat) (h : o ≤ k) (hk : k ≤ 1000) : plainElem (H := Unit) Try.prog 3 (.int .i64 ((o : Int) + 1)) = some (.lit (.int .i64 ((o : Int) + 1)), []) := plainElem_int Try.underlying3 (wf_int _ (by omega))
theorem cnt_elem2 (o k : Nat) (h : o ≤ k) (hk : k ≤ 1000) : plainElem (H := Unit) Try.prog 3 (.int .i64 (wrap64 ((o : Int) + 1))) = some (.lit (.int .i64 ((o : Int) + 1)), []) := by
  rw [show wrap64 ((o : Int) + 1) = (o : Int) + 1 by simp only [wrap64]; omega]
  exact cnt_elem o k h hk
/-- What the values of such a map, sorted, come to. -/
theorem vals_pat {f : Nat → Int} {n : Nat} {D : DataW Unit} (h : CntOf f n D) (h1 : 1 ≤ n) (hn : n ≤ 4) {ss : List Int} (hv : ValsOf D ss) :
    (1 ≤ ss.length ∧ ss.length ≤ 4 ∧ ∀ x ∈ ss, 1 ≤ x ∧ x ≤ 4) ∧ ∀ p, p < 4 → extZ ss.length (plF (fun i => ss.getD i 0) ss.length) p = patF (plF f n) n p := by
  obtain ⟨ps, rfl, hnd, hk, hat⟩ := hv
  obtain ⟨h2, h3, h4, h5⟩ := h
  have hk2 : ∀ x, x ∈ ps.map (·.1) ↔ ∃ j, j < n ∧ f j = x := fun x => by
    rw [hk x, h4 x, decide_eq_true_eq, occ_pos]
  have hval : ∀ p ∈ ps, p.2 = (occ f n p.1 : Nat) := fun p hp => by
    have a := hat p hp (.lit (.int .i64 0))
    rw [h3] at a
    injection a with a
    injection a with _ a
    exact a.symm
  have hmem : ∀ x ∈ ps.map (·.2), 1 ≤ x ∧ x ≤ 4 := fun x hx => by
    obtain ⟨p, hp, rfl⟩ := List.mem_map.1 hx
    have a := (occ_pos f p.1 n).2 ((hk2 p.1).1 (List.mem_map.2 ⟨p, hp, rfl⟩))
    have b := occ_le f p.1 n
    rw [hval p hp]
    omega
  have hget : ∀ j, j < (ps.map (·.2)).length → 1 ≤ (ps.map (·.2)).getD j 0 := fun j hj => by
    refine (hmem _ ?_).1
    rw [List.getD_eq_getElem?_getD, List.getElem?_eq_getElem hj]
    exact List.getElem_mem hj
  have hc1 := vals_hc f n ps hnd hk2 hval 1 (Nat.le_refl _)
  have hg1 := gP_le f 1 n
  have hall : hc (fun i => (ps.map (·.2)).getD i 0) ((1 : Nat) : Int) (ps.map (·.2)).length = (ps.map (·.2)).length := hc_all _ hget
  have hl4 : (ps.map (·.2)).length ≤ 4 := by omega
  have hl1 : 1 ≤ (ps.map (·.2)).length := by
    have := (hk2 (f 0)).2 ⟨0, by omega, rfl⟩
    have := List.length_pos_of_mem this
    rw [List.length_map] at this ⊢
    exact this
  exact ⟨⟨hl1, hl4, hmem⟩, fun p hp => pat_sorted f hn _ _ hl4 (fun j hj => by have := hget j hj; omega) (fun z hz => vals_hc f n ps hnd hk2 hval z hz) p hp⟩
theorem ext_step (s : Nat → Int) (i : Nat) : upd (extZ i s) i (s i) = extZ (i + 1) s := by
  funext p
  simp only [upd, extZ]
  by_cases e : p = i
  · subst e; rw [if_pos rfl, if_pos (by omega)]
  · rw [if_neg e]
    by_cases c : p < i
    · rw [if_pos c, if_pos (by omega)]
    · rw [if_neg c, if_neg (by omega)]
set_option maxRecDepth 100000 in
set_option maxHeartbeats 2000000 in
theorem patternOf_any (rb n : Nat) (r : Nat → Int) (h1 : 1 ≤ n) (hn : n ≤ 4) (hr : ∀ j, j < n → -1000000 ≤ r j ∧ r j ≤ 1000000) (w : World) (h : Blk w rb n 3 (I r)) :
    Calls Try.prog 50 #[.slice (some ⟨rb, 0, none⟩) n n] w fun e w' => e = .returned (.agg (row 4 (I (patF (plF r n) n)))) ∧ Below w.heap.size w w' := by
  have H := Lib.hid h; clear h
  have HR := Lib.hid hr; clear hr
  have hmm := @run_makeMap Try.prog
  go_enter Try.func50, Try.ntmps50
  go_wp2_with (first | (refine wpList_alloc_blk rfl 29 rfl zero4 ?_) | fail)
  generalize hW : (w.alloc (.cells (row 4 (I fun _ => 0)) 29)).alloc (.map #[] 0) = W0
  have R0 := Lib.hid (show Blk W0 w.heap.size 4 29 (I fun _ => 0) from hW ▸ (Blk.new _ _ _ _).alloc _)
  have M0 := Lib.hid (show W0.ownsMap Try.prog 3 (plainElem (H := Unit) Try.prog 3) (w.heap.size + 1) 0 (.map []) from hW ▸ by
    have := World.ownsMap_made (w.alloc (.cells (row 4 (I fun _ => 0)) 29)) Try.prog 3 (plainElem (H := Unit) Try.prog 3)
    simpa using this)
  have HB0 := Lib.hid (show Below w.heap.size w W0 from hW ▸ ((Below.refl _ _).alloc (by omega) _).alloc (by simp) _)
  have H0 := Lib.hid (H.out.below HB0.out H.out.lt)
  have HL := Lib.hid H.out.lt
  clear hW H
  go_loopw [12] (fun i wr => ∃ (k : Nat) (D : DataW Unit), k ≤ n ∧ i = .int .i64 (k : Int) ∧ Blk wr rb n 3 (I r) ∧ Blk wr w.heap.size 4 29 (I fun _ => 0) ∧ wr.ownsMap Try.prog 3 (plainElem (H := Unit) Try.prog 3) (w.heap.size + 1) k D ∧ CntOf r k D ∧ Below w.heap.size w wr) (fun i _ => n - (RowKit.intOf i).toNat)
  case atStart => exact ⟨0, .map [], by omega, by go_num, H0.out, R0.out, M0.out, cntOf_zero r, HB0.out⟩
  case round =>
    obtain ⟨k, D, hk, rfl, hA, hR, hM, hC, hB⟩ := hrel
    clear H0 R0 M0 HB0
    have A1 := Lib.hid hA; have R1 := Lib.hid hR; have M1 := Lib.hid hM; have C1 := Lib.hid hC; have B1 := Lib.hid hB
    clear hA hR hM hC hB
    by_cases hlt : k < n
    · have d0 : decide (k < n) = true := by simp; omega
      have c1 : wr.cell? ⟨rb, k, none⟩ = some (.int .i64 (r k)) := A1.out.cell hlt
      have f1 : wr.frozen? ⟨rb, k, none⟩ = false := A1.out.free _
      have K1 := Lib.hid (keyOf_int_mk Try.underlying3 (wf_int _ (HR.out k hlt)))
      have E1 := Lib.hid (cnt_elem2 (occ r k (r k)) k (occ_le r (r k) k) (by omega))
      go_wp2_with (first
        | (at_lookup; refine wpList_lookup_own_int _ rfl _ _ 93 rfl 3 3 .i64 (Maps.int_keyed Try.underlying3) Try.underlying93 Try.underlying3 (Try.zeroValue3 _) (w.heap.size + 1) k D rfl M1.out _ _ rfl K1.out ?_; intro c hat hwc; obtain rfl := cnt_at C1.out hat; clear hat hwc)
        | (at_mapUpdate; refine wpList_mapUpdate_own _ rfl _ _ _ 93 rfl 3 3 (Maps.int_keyed Try.underlying3) Try.underlying93 _ (w.heap.size + 1) k D rfl M1.out (by simp only [maxLen]; omega) _ _ _ rfl rfl K1.out _ [] E1.out ?_; intro w1 hown1 hgrow1)
        | go_in)
      go_roundw
      case rel => exact ⟨k + 1, _, by omega, by go_num, A1.out.grown hgrow1 (fun e => by injection e with e; have := HL.out; omega), R1.out.grown hgrow1 (fun e => by injection e with e; omega), hown1, cntOf_step C1.out, below_grown B1.out hgrow1 (fun g e => by cases e; omega) B1.out.size⟩
      case measure => simp [RowKit.intOf]; omega
    · have d0 : decide (k < n) = false := by simp; omega
      obtain rfl : k = n := by omega
      have P1 := Lib.hid (fun ss (h : ValsOf D ss) => vals_pat C1.out h1 hn h)
      have hsz : Maps.size D ≤ k := C1.out.2.2.2
      go_wp2_with (first | (refine wpList_alloc_blk rfl 29 rfl zero4 ?_) | fail)
      generalize hW : wr.alloc (.cells (row 4 (I fun _ => 0)) 29) = W1
      have hs : wr.heap.size = W1.heap.size - 1 := by rw [← hW]; simp
      obtain ⟨ob, hob⟩ : ∃ ob, ob = wr.heap.size := ⟨_, rfl⟩
      have O2 := Lib.hid (show Blk W1 ob 4 29 (I fun _ => 0) from hob ▸ hW ▸ Blk.new _ _ _ _)
      have R2 := Lib.hid (show Blk W1 w.heap.size 4 29 (I fun _ => 0) from hW ▸ R1.out.alloc _)
      have M2 := Lib.hid (show W1.ownsMap Try.prog 3 (plainElem (H := Unit) Try.prog 3) (w.heap.size + 1) k D from hW ▸ M1.out.alloc _)
      have B2 := Lib.hid (show Below w.heap.size w W1 from hW ▸ B1.out.alloc B1.out.size _)
      have NE := Lib.hid (show w.heap.size < ob from hob ▸ R1.out.lt)
      rw [← hob]
      clear hW A1 R1 M1 B1 C1 HR hmm hs hob
      go_wp2_with fail
      go_at_call 93
      refine (values_any _ _).mono ?_
      rintro e w' ⟨rfl, rfl⟩
      generalize hW : W1.alloc (.cells #[.map (some (w.heap.size + 1))] 93) = W2
      have O3 := Lib.hid (show Blk W2 ob 4 29 (I fun _ => 0) from hW ▸ O2.out.alloc _)
      have R3 := Lib.hid (show Blk W2 w.heap.size 4 29 (I fun _ => 0) from hW ▸ R2.out.alloc _)
      have M3 := Lib.hid (show W2.ownsMap Try.prog 3 (plainElem (H := Unit) Try.prog 3) (w.heap.size + 1) k D from hW ▸ M2.out.alloc _)
      have B3 := Lib.hid (show Below w.heap.size w W2 from hW ▸ B2.out.alloc B2.out.size _)
      have C3 := Lib.hid (show W2.cell? ⟨W1.heap.size, 0, none⟩ = some (.map (some (w.heap.size + 1))) from hW ▸ (Blk.newAt (n := 1) (f := fun _ => .map (some (w.heap.size + 1))) rfl rfl).cell (by omega))
      have L3 := Lib.hid (show W1.heap.size < W2.heap.size by rw [← hW]; simp)
      clear hW O2 R2 M2 B2
      go_wp2_with fail
      go_at_call 92
      refine (sortedVals_any W1.heap.size (w.heap.size + 1) k D (by omega) (fun ss h => by
        obtain ⟨⟨a1, a2, a3⟩, _⟩ := P1.out ss h
        exact ⟨a1, by omega, fun x hx => by have := a3 x hx; omega⟩) _ L3.out C3.out M3.out).mono ?_
      rintro e W3 ⟨g, cap, ss, rfl, hv, hg, hRo, hb⟩
      obtain ⟨⟨hl1, hl4, -⟩, hpat⟩ := P1.out ss hv
      obtain ⟨s, hs⟩ : ∃ s, s = plF (fun i => ss.getD i 0) ss.length := ⟨_, rfl⟩
      obtain ⟨m, hm⟩ : ∃ m, m = ss.length := ⟨_, rfl⟩
      rw [← hs] at hpat hRo
      rw [← hm] at hpat hRo hl1 hl4
      rw [← hm]
      have PT := Lib.hid hpat
      have S4 := Lib.hid hRo
      have O4 := Lib.hid (O3.out.below hb O3.out.lt)
      have R4 := Lib.hid (R3.out.below hb R3.out.lt)
      have B4 := Lib.hid (B3.out.trans (hb.mono B3.out.size))
      have HG := Lib.hid (show ob < g from Nat.lt_of_lt_of_le O3.out.lt hg)
      clear hs hm hpat hRo hb hg hv P1 O3 R3 M3 B3 C3 L3
      go_wp2_with fail
      go_loopw [25] (fun i wr => ∃ j : Nat, j ≤ m ∧ i = .int .i64 (j : Int) ∧ Ro wr g m 3 (I s) ∧ Blk wr w.heap.size 4 29 (I fun _ => 0) ∧ Blk wr ob 4 29 (I (extZ j s)) ∧ Below w.heap.size w wr) (fun i _ => m - (RowKit.intOf i).toNat)
      case atStart => exact ⟨0, by omega, by go_num, S4.out, R4.out, O4.out.ext (fun p _ => by simp [I, extZ]), B4.out⟩
      case round =>
        obtain ⟨j, hj, rfl, hS, hR, hO, hB⟩ := hrel
        clear S4 R4 O4 B4
        have S5 := Lib.hid hS; have R5 := Lib.hid hR; have O5 := Lib.hid hO; have B5 := Lib.hid hB
        clear hS hR hO hB
        by_cases hlt : j < m
        · have d1 : decide (j < m) = true := by simp; omega
          have hj4 : j < 4 := by omega
          have c2 : wr.cell? ⟨g, j, none⟩ = some (.int .i64 (s j)) := S5.out.cell hlt
          have c3 : wr.cell? ⟨ob, j, none⟩ = some (.int .i64 (extZ j s j)) := O5.out.cell hj4
          have f2 : wr.frozen? ⟨g, j, none⟩ = false := S5.out.free _
          have f3 : wr.frozen? ⟨ob, j, none⟩ = false := O5.out.free _
          go_wp2
          go_roundw
          case rel => exact ⟨j + 1, by omega, by go_num, S5.out.other _ _ (by have := HG.out; simp; omega), R5.out.other _ _ (by have := NE.out; simp; omega), by rw [← ext_step, ← I_upd]; exact O5.out.set hj4 _, B5.out.setCell (by have := NE.out; simp; omega) _⟩
          case measure => simp [RowKit.intOf]; omega
        · have d1 : decide (j < m) = false := by simp; omega
          obtain rfl : j = m := by omega
          go_wp2_with (first | ((with_reducible apply wpList_load_blk); (case hw => rfl); (case ho => rfl); (case hx => rfl); (case hb => with_reducible exact O5.out); (case hu => exact Try.underlying29); (case hi => exact sz4)) | (refine wpList_store_blk rfl 29 _ _ rfl (R5.out) rfl rfl sz4 (fun _ _ => rfl) ?_) | fail)
          exact post_blk rfl (R5.out.setRow _) rfl Try.underlying29 sz4 rfl ⟨congrArg (fun c => Ending.returned (.agg c)) (row_ext (fun p hp => congrArg (Value.int .i64) (PT.out p hp))), below_setRow B5.out (Nat.le_refl _) _⟩
end Go.Proofs.Ytbfhfadfjgfmaaa

/- Maps whose keys are [4]int: the key, and 'm[k] op= v' at a map of the call's own. -/
set_option linter.unusedVariables false
set_option linter.unusedSimpArgs false
set_option linter.unusedSectionVars false
namespace Go.Proofs.Ytbfhfadfjgfmaaa
open Go.RowKit Go.Maps Go.WideElems Go.ChangeMaps Go.MapKept
theorem laws4 : WideMaps.KeyLaw Try.prog 29 := deep_law_laid (by kernel_rfl) (m := 20) (by decide) (of_decide_eq_true (by kernel_rfl)) (by kernel_rfl) (by kernel_rfl)
theorem keyed4 : Keyed Try.prog 29 := Keyed.of_law laws4
/-- What an array of four ints is as a key. -/
def kl4 (f : Nat → Int) : Lit := .string (keyBytes [.int .i64 (f 0), .int .i64 (f 1), .int .i64 (f 2), .int .i64 (f 3)])
theorem lits1 (d : Nat) (v : Int) (h : (Lit.int .i64 v).wf = true) : Try.prog.keyLits (d + 1) 3 [.int .i64 v] = some [.int .i64 v] := by
  unfold Program.keyLits
  rw [Try.underlying3]
  simp [h]
theorem key4 (f : Nat → Int) (h : ∀ p, p < 4 → (Lit.int .i64 (f p)).wf = true) : keyOf Try.prog 29 (.agg (row 4 (I f))) = some (kl4 f) := by
  have c4 : Try.prog.cellsOf 29 = 4 := by kernel_rfl
  have c1 : Try.prog.cellsOf 3 = 1 := by kernel_rfl
  have hk : Try.prog.keyType 29 = true := by kernel_rfl
  have hf : (Value.agg (row 4 (I f))).formed Try.prog 29 = true := by
    simp only [Value.formed]
    rw [Try.underlying29]
    simp [c4, row_size]
  obtain ⟨m, hm⟩ : ∃ m, Try.prog.types.size = m + 1 := ⟨Try.prog.types.size - 1, by kernel_rfl⟩
  unfold keyOf
  rw [Try.underlying29]
  simp only [hk, hf, Bool.and_self, if_true]
  have e : (Value.agg (row 4 (I f))).cells.toList = [.int .i64 (f 0), .int .i64 (f 1), .int .i64 (f 2), .int .i64 (f 3)] := rfl
  rw [e, hm]
  unfold Program.keyLits
  rw [Try.underlying29]
  simp only [c4, c1, List.length_cons, List.length_nil, Nat.reduceAdd, if_true]
  have l0 := lits1 m (f 0) (h 0 (by omega))
  have l1 := lits1 m (f 1) (h 1 (by omega))
  have l2 := lits1 m (f 2) (h 2 (by omega))
  have l3 := lits1 m (f 3) (h 3 (by omega))
  simp [List.range, List.range.loop, l0, l1, l2, l3, kl4]
theorem key4_inj {f g : Nat → Int} (hf : ∀ p, p < 4 → (Lit.int .i64 (f p)).wf = true) (hg : ∀ p, p < 4 → (Lit.int .i64 (g p)).wf = true) (h : kl4 f = kl4 g) : ∀ p, p < 4 → f p = g p := by
  have a := key4 f hf
  have b := key4 g hg
  rw [← h] at b
  have e := laws4.inj a b
  injection e with e
  intro p hp
  have e2 : some (I f p) = some (I g p) := (row_get hp).symm.trans ((congrArg (fun r : Array Value => r[p]?) e).trans (row_get hp))
  simpa [I] using e2
section
variable {H : Type} {P : Program} {k : TypeId} {R : Value → Option (DataW H × List MemPlace)} {w : World} {b n : Nat} {D : DataW H}
theorem entry_as_update {t e : TypeId} {es es1 : Array MapEntry} {clock clock1 : Nat} {v0 : Value} {st : Nat} (K : WideMaps.KeyLaw P k) (ht : P.underlying t = some (.map k e)) {z : Value} (hz : ∀ u : World, (zeroValue e).run P u = .ok z u) (hb : w.heap[b]? = some (.map es clock)) (F : Fit P k R es clock)
    {key : Value} {kl : Lit} (hkey : keyOf P k key = some kl) (hrun : (Instr.mapEntry t (.map (some b)) key).run P w = .ok (.tuple #[v0, goInt st]) (setBlock w b (.map es1 clock1))) :
    (Instr.mapUpdate t (.map (some b)) key v0).run P w = .ok () (setBlock w b (.map es1 clock1)) := by
  rcases K.find w hkey es.toList F.keys with ⟨h1, h2⟩ | ⟨j, e0, h1, h2, h3⟩
  · simp [Instr.mapEntry, run_underlying ht, MapKept.run_getObj_map hb, K.check w false hkey, h1, hz, MapKept.run_setObj_map _ hb, Result.andThen, setBlock] at hrun
    obtain ⟨⟨rfl, -⟩, h4⟩ := hrun
    simp [Instr.mapUpdate, run_underlying ht, MapKept.run_getObj_map hb, K.check w false hkey, h1, MapKept.run_setObj_map _ hb, Result.andThen, setBlock]
    exact h4
  · have hj : es[j]? = some e0 := by simpa using h2
    have hsame : es.modify j (fun e => { e with key := key }) = es := by
      apply Array.ext'
      rw [Array.toList_modify, modify_eq_set _ _ _ _ h2]
      have : ({ e0 with key := key } : MapEntry) = e0 := by rw [← h3]
      rw [this]
      exact set_self _ _ _ h2
    have hsame2 : es.modify j (fun e => { e with key := key, val := e0.val }) = es := by
      apply Array.ext'
      rw [Array.toList_modify, modify_eq_set _ _ _ _ h2]
      have : ({ e0 with key := key, val := e0.val } : MapEntry) = e0 := by rw [← h3]
      rw [this]
      exact set_self _ _ _ h2
    simp [Instr.mapEntry, run_underlying ht, MapKept.run_getObj_map hb, K.check w false hkey, h1, hj, h3, K.stays w hkey, hsame, MapKept.run_setObj_map _ hb, Result.andThen, setBlock] at hrun
    obtain ⟨⟨rfl, -⟩, h4⟩ := hrun
    simp [Instr.mapUpdate, run_underlying ht, MapKept.run_getObj_map hb, K.check w false hkey, h1, hj, h3, K.stays w hkey, hsame2, MapKept.run_setObj_map _ hb, Result.andThen, setBlock]
    exact h4
/-- 'm[k] op= v': the entry is looked up or made, and later written. -/
theorem ownsMap_entry {t e : TypeId} (h : w.ownsMap P k R b n D) (K : WideMaps.KeyLaw P k) (ht : P.underlying t = some (.map k e)) (hn : n < maxLen) {z : Value} (hz : ∀ u : World, (zeroValue e).run P u = .ok z u) {zd : DataW H} {zp : List MemPlace} (hzd : R z = some (zd, zp)) {key : Value} {kl : Lit} (hkey : keyOf P k key = some kl) :
    ∃ (v0 : Value) (st : Nat) (w2 : World), (Instr.mapEntry t (.map (some b)) key).run P w = .ok (.tuple #[v0, goInt st]) w2 ∧ w2.ownsMap P k R b (n + 1) (D.put kl (D.atKey kl zd)) ∧ w.grownBy w2 (some b) ∧
      ∀ (w3 : World) (val : Value) (d : DataW H) (ps : List MemPlace), w3.heap[b]? = w2.heap[b]? → R val = some (d, ps) → ∃ w4, (Instr.entryStore t (.map (some b)) (goInt st) val).run P w3 = .ok () w4 ∧ w4.ownsMap P k R b (n + 1) (D.put kl d) ∧ w3.grownBy w4 (some b) := by
  have hown := h
  obtain ⟨es, clock, hb, F, hs, hD⟩ := h
  obtain ⟨v0, st, es1, clock1, hrun, hcase, hst⟩ := entry_then_store K ht hz hb F hkey
  have hup := entry_as_update (R := R) K ht hz hb F hkey hrun
  have hv0 : ∃ p0, R v0 = some (D.atKey kl zd, p0) := by
    rcases hcase with ⟨e0, hm, hk0, rfl⟩ | ⟨hno, rfl⟩
    · obtain ⟨y, hy⟩ := F.reads e0 hm
      obtain ⟨yv, hyv⟩ : ∃ yv, R e0.val = some yv := by
        unfold WideElems.rd at hy
        cases hR : R e0.val with
        | none => rw [hR] at hy; cases hk : keyOf P k e0.key <;> rw [hk] at hy <;> simp at hy
        | some yv => exact ⟨yv, rfl⟩
      exact ⟨yv.2, by rw [hD, WideElems.atKey_some K F hkey hm hk0 hyv zd]; exact hyv⟩
    · exact ⟨zp, by rw [hD, WideElems.atKey_none K F hkey hno zd]; exact hzd⟩
  obtain ⟨p0, hv0⟩ := hv0
  obtain ⟨w', hr1, ho1, hg1⟩ := hown.update (Keyed.of_law K) ht hn hkey hv0
  rw [hup] at hr1
  injection hr1 with _ hw'
  subst hw'
  refine ⟨v0, st, _, hrun, ho1, hg1, fun w3 val d ps h3 hval => ?_⟩
  obtain ⟨es', clock', hs1, hs2⟩ := hst w3 val (h3.trans (ChangeMaps.heap_setBlock_same hb _))
  obtain ⟨w5, hr2, ho2, hg2⟩ := hown.update (Keyed.of_law K) ht hn hkey hval
  rw [hs2] at hr2
  injection hr2 with _ hw5
  subst hw5
  have hb3 : w3.heap[b]? = some (.map es1 clock1) := h3.trans (ChangeMaps.heap_setBlock_same hb _)
  obtain ⟨es2, clock2, hb2, F2, hs3, hD2⟩ := ho2
  rw [ChangeMaps.heap_setBlock_same hb _] at hb2
  injection hb2 with hb2
  injection hb2 with q1 q2
  subst q1
  subst q2
  exact ⟨_, hs1, ⟨_, _, ChangeMaps.heap_setBlock_same hb3 _, F2, hs3, hD2⟩, ⟨rfl, rfl, rfl, by simp [setBlock], fun i _ hi => ChangeMaps.heap_setBlock_other hb3 _ (fun e => hi (by rw [e]))⟩⟩
end
end Go.Proofs.Ytbfhfadfjgfmaaa

/- The closure of the program's patterns: out[patternOf(places)]++. Written by gen_patc.py. -/
set_option linter.unusedVariables false
set_option linter.unusedSimpArgs false
set_option linter.unusedSectionVars false
namespace Go.Proofs.Ytbfhfadfjgfmaaa
open Go.RowKit Go.Maps
section
variable {H : Type} {P : Program} (w : World) {ops : Array Oper} {rest : List Oper} {o : Oper} {a : Act} {Q : Exit → Act → World → Prop} {k : TypeId} {R : Value → Option (DataW H × List MemPlace)}
/-- What a made entry lets one do: write it once, in whatever world in which the map's block lies as it lay. -/
def Entry (P : Program) (t k : TypeId) (R : Value → Option (DataW H × List MemPlace)) (b n : Nat) (D : DataW H) (kl : Lit) (st : Nat) (w2 : World) : Prop :=
  ∀ (w3 : World) (val : Value) (d : DataW H) (ps : List MemPlace), w3.heap[b]? = w2.heap[b]? → R val = some (d, ps) → ∃ w4, (Instr.entryStore t (.map (some b)) (goInt st) val).run P w3 = .ok () w4 ∧ w4.ownsMap P k R b (n + 1) (D.put kl d) ∧ w3.grownBy w4 (some b)
theorem wpList_mapEntry_own (hg : o.guard = none) (m x : Operand) (t : TypeId) (hop : o.op = Op.mapEntry t m x) (K : WideMaps.KeyLaw P k) {e : TypeId} (ht : P.underlying t = some (.map k e)) {z : Value} (hz : ∀ u : World, (zeroValue e).run P u = .ok z u) {zd : DataW H} {zp : List MemPlace} (hzd : R z = some (zd, zp))
    (b n : Nat) (D : DataW H) (hm : a.eval m = .map (some b)) (hown : w.ownsMap P k R b n D) (hn : n < maxLen) (key : Value) (kl : Lit) (hx : a.eval x = key) (hkey : keyOf P k key = some kl)
    (hK : ∀ (v0 : Value) (st : Nat) (w2 : World), w2.ownsMap P k R b (n + 1) (D.put kl (D.atKey kl zd)) → w.grownBy w2 (some b) → Entry P t k R b n D kl st w2 → wpList P ops Q rest (a.put o.dst (.tuple #[v0, goInt st])) w2) :
    wpList P ops Q (o :: rest) a w := by
  refine wpList_plain hg fun K' hK' => ?_
  obtain ⟨v0, st, w2, hrun, h1, h2, h3⟩ := ownsMap_entry hown K ht hn hz hzd hkey
  unfold Oper.wp
  simp [execOp, hop, hm, hx, hrun, Result.andThen]
  exact hK' _ _ (hK v0 st w2 h1 h2 h3)
theorem wpList_entryStore_own (hg : o.guard = none) (m x v : Operand) (t : TypeId) (hop : o.op = Op.entryStore t m x v) (b n : Nat) (D : DataW H) (kl : Lit) (st : Nat) (hm : a.eval m = .map (some b)) (hs : a.eval x = goInt st) (hE : Entry P t k R b n D kl st w) (val : Value) (hv : a.eval v = val) (d : DataW H) (ps : List MemPlace) (hval : R val = some (d, ps))
    (hK : ∀ w2 : World, w2.ownsMap P k R b (n + 1) (D.put kl d) → w.grownBy w2 (some b) → wpList P ops Q rest (a.put o.dst undef) w2) :
    wpList P ops Q (o :: rest) a w := by
  refine wpList_plain hg fun K' hK' => ?_
  obtain ⟨w2, hrun, h1, h2⟩ := hE w val d ps rfl hval
  unfold Oper.wp
  simp [execOp, hop, hm, hs, hv, hrun, Result.andThen]
  exact hK' _ _ (hK w2 h1 h2)
end
/-- Where the region stands: w0 is the world in which it began. -/
def PW (w0 : World) (mb N : Nat) (D : DataW Unit) (kl : Lit) (c : Int) (s : Nat → Bool) (g : Value × Nat) (w : World) : Prop :=
  w0.grownBy w (some mb) ∧ mb < w0.heap.size ∧ (s 4 = true → s 3 = true) ∧ (s 7 = true → s 3 = true) ∧ (s 6 = true → s 5 = true) ∧ (s 7 = true → s 5 = true) ∧
  (s 7 = true → w.ownsMap Try.prog 29 (plainElem Try.prog 3) mb (N + 1) (D.put kl (.lit (.int .i64 (c + 1))))) ∧
  (s 7 = false → s 5 = true → w.ownsMap Try.prog 29 (plainElem Try.prog 3) mb (N + 1) (D.put kl (.lit (.int .i64 c))) ∧ Entry Try.prog 67 29 (plainElem Try.prog 3) mb N D kl g.2 w) ∧
  (s 7 = false → s 5 = false → w.ownsMap Try.prog 29 (plainElem Try.prog 3) mb N D)
section
variable {w0 w w' : World} {mb N : Nat} {D : DataW Unit} {kl : Lit} {c : Int} {s : Nat → Bool} {g : Value × Nat}
theorem PW.plain (h : PW w0 mb N D kl c s g w) {i : Nat} (h3 : i = 0 ∨ i = 1 ∨ i = 2 ∨ i = 3 ∨ (i = 4 ∧ s 3 = true) ∨ (i = 6 ∧ s 5 = true)) : PW w0 mb N D kl c (upd s i true) g w := by
  obtain ⟨a0, a1, a2, a3, a4, a5, a6, a7, a8⟩ := h
  rcases h3 with rfl | rfl | rfl | rfl | ⟨rfl, e⟩ | ⟨rfl, e⟩
  · exact ⟨a0, a1, by simpa [upd] using a2, by simpa [upd] using a3, by simpa [upd] using a4, by simpa [upd] using a5, by simpa [upd] using a6, by simpa [upd] using a7, by simpa [upd] using a8⟩
  · exact ⟨a0, a1, by simpa [upd] using a2, by simpa [upd] using a3, by simpa [upd] using a4, by simpa [upd] using a5, by simpa [upd] using a6, by simpa [upd] using a7, by simpa [upd] using a8⟩
  · exact ⟨a0, a1, by simpa [upd] using a2, by simpa [upd] using a3, by simpa [upd] using a4, by simpa [upd] using a5, by simpa [upd] using a6, by simpa [upd] using a7, by simpa [upd] using a8⟩
  · exact ⟨a0, a1, by simp [upd], by simp [upd], by simpa [upd] using a4, by simpa [upd] using a5, by simpa [upd] using a6, by simpa [upd] using a7, by simpa [upd] using a8⟩
  · exact ⟨a0, a1, by simp [upd, e], by simpa [upd] using a3, by simpa [upd] using a4, by simpa [upd] using a5, by simpa [upd] using a6, by simpa [upd] using a7, by simpa [upd] using a8⟩
  · exact ⟨a0, a1, by simpa [upd] using a2, by simpa [upd] using a3, by simp [upd, e], by simpa [upd] using a5, by simpa [upd] using a6, by simpa [upd] using a7, by simpa [upd] using a8⟩
theorem PW.call (h : PW w0 mb N D kl c s g w) (hb : Below w.heap.size w w') : PW w0 mb N D kl c s g w' := by
  obtain ⟨a0, a1, a2, a3, a4, a5, a6, a7, a8⟩ := h
  have hl : mb < w.heap.size := Nat.lt_of_lt_of_le a1 a0.size
  have hg : w.grownBy w' none := grown_none hb none
  refine ⟨grown_trans a0 hg (fun k e => by cases e), a1, a2, a3, a4, a5, fun e => (a6 e).kept hg (by simp), fun e1 e2 => ⟨(a7 e1 e2).1.kept hg (by simp), fun w3 val d ps h1 h2 => (a7 e1 e2).2 w3 val d ps (h1.trans (hb.block mb hl)) h2⟩, fun e1 e2 => (a8 e1 e2).kept hg (by simp)⟩
theorem PW.blk (h : PW w0 mb N D kl c s g w) {b n : Nat} {T : TypeId} {f : Nat → Value} (hb : Blk w0 b n T f) (hne : b ≠ mb) : Blk w b n T f := hb.grown h.1 (fun e => by injection e with e; exact hne e)
/-- The map as the look-up finds it. -/
theorem PW.look (h : PW w0 mb N D kl c s g w) (hs : s 3 = false) (hM : IsMap D) (hk : WideAt.IsKeyLit kl) (hc : D.atKey kl (.lit (.int .i64 0)) = .lit (.int .i64 c)) : ∃ (N' : Nat) (D' : DataW Unit), w.ownsMap Try.prog 29 (plainElem Try.prog 3) mb N' D' ∧ D'.atKey kl (.lit (.int .i64 0)) = .lit (.int .i64 c) := by
  obtain ⟨a0, a1, a2, a3, a4, a5, a6, a7, a8⟩ := h
  have e7 : s 7 = false := by cases e : s 7; rfl; rw [a3 e] at hs; cases hs
  cases e5 : s 5
  · exact ⟨_, _, a8 e7 e5, hc⟩
  · exact ⟨_, _, (a7 e7 e5).1, atKey_put_same hM hk _ _⟩
theorem PW.no6 (h : PW w0 mb N D kl c s g w) (hs : s 5 = false) : s 6 = false := by
  obtain ⟨a0, a1, a2, a3, a4, a5, a6, a7, a8⟩ := h
  cases e : s 6
  · rfl
  · rw [a4 e] at hs; cases hs
theorem PW.before (h : PW w0 mb N D kl c s g w) (hs : s 5 = false) : w.ownsMap Try.prog 29 (plainElem Try.prog 3) mb N D := by
  obtain ⟨a0, a1, a2, a3, a4, a5, a6, a7, a8⟩ := h
  have e7 : s 7 = false := by cases e : s 7; rfl; rw [a5 e] at hs; cases hs
  exact a8 e7 hs
theorem PW.enter (h : PW w0 mb N D kl c s g w) (hs : s 5 = false) {v0 : Value} {st : Nat} (ho : w'.ownsMap Try.prog 29 (plainElem Try.prog 3) mb (N + 1) (D.put kl (.lit (.int .i64 c)))) (hg : w.grownBy w' (some mb)) (hE : Entry Try.prog 67 29 (plainElem Try.prog 3) mb N D kl st w') :
    PW w0 mb N D kl c (upd s 5 true) (v0, st) w' := by
  obtain ⟨a0, a1, a2, a3, a4, a5, a6, a7, a8⟩ := h
  have e7 : s 7 = false := by cases e : s 7; rfl; rw [a5 e] at hs; cases hs
  exact ⟨grown_trans a0 hg (fun k e => .inl e.symm), a1, by simpa [upd] using a2, by simpa [upd] using a3, by simp [upd], by simp [upd], by simp [upd, e7], fun _ _ => ⟨ho, hE⟩, by simp [upd]⟩
theorem PW.entry (h : PW w0 mb N D kl c s g w) (hs : s 7 = false) (h5 : s 5 = true) : Entry Try.prog 67 29 (plainElem Try.prog 3) mb N D kl g.2 w := (h.2.2.2.2.2.2.2.1 hs h5).2
theorem PW.stored (h : PW w0 mb N D kl c s g w) (h3 : s 3 = true) (h5 : s 5 = true) (ho : w'.ownsMap Try.prog 29 (plainElem Try.prog 3) mb (N + 1) (D.put kl (.lit (.int .i64 (c + 1))))) (hg : w.grownBy w' (some mb)) : PW w0 mb N D kl c (upd s 7 true) g w' := by
  obtain ⟨a0, a1, a2, a3, a4, a5, a6, a7, a8⟩ := h
  exact ⟨grown_trans a0 hg (fun k e => .inl e.symm), a1, by simpa [upd] using a2, by simp [upd, h3], by simpa [upd] using a4, by simp [upd, h5], fun _ => ho, by simp [upd], by simp [upd]⟩
end
set_option maxRecDepth 100000 in
set_option maxHeartbeats 2000000 in
theorem patC_any (rb n : Nat) (r : Nat → Int) (h1 : 1 ≤ n) (hn : n ≤ 4) (hr : ∀ j, j < n → -1000000 ≤ r j ∧ r j ≤ 1000000) (B mb N : Nat) (hN : N ≤ 100000) (D : DataW Unit) (hM : IsMap D) (c : Int) (hc0 : 0 ≤ c ∧ c ≤ 100000) (hc : D.atKey (kl4 (patF (plF r n) n)) (.lit (.int .i64 0)) = .lit (.int .i64 c)) (hrm : rb ≠ mb) (hBm : B ≠ mb) (w : World) (h : Blk w rb n 3 (I r)) (hB : Blk w B 1 67 (fun _ => .map (some mb))) (hown : w.ownsMap Try.prog 29 (plainElem Try.prog 3) mb N D) :
    Calls Try.prog 97 #[.slice (some ⟨rb, 0, none⟩) n n, .pointer (some ⟨B, 0, none⟩)] w fun e w' => e = .returned (.tuple #[]) ∧ w'.ownsMap Try.prog 29 (plainElem Try.prog 3) mb (N + 1) (D.put (kl4 (patF (plF r n) n)) (.lit (.int .i64 (c + 1)))) ∧ w.grownBy w' (some mb) := by
  have A0 := Lib.hid h; have B0 := Lib.hid hB; have HR := Lib.hid hr
  have hml := hown.lt
  have HP := Lib.hid (show ∀ p, p < 4 → (Lit.int .i64 (patF (plF r n) n p)).wf = true from fun p _ => wf_int _ (by have := patF_bd (plF r n) n p; omega))
  have HK := Lib.hid (key4 _ HP.out)
  obtain ⟨kl, hkl⟩ : ∃ kl, kl = kl4 (patF (plF r n) n) := ⟨_, rfl⟩
  have KL : WideAt.IsKeyLit kl := by rw [hkl]; trivial
  rw [← hkl] at hc HK ⊢
  have W0 : PW w mb N D kl c (fun _ => false) (undef, 0) w.drew := ⟨⟨rfl, rfl, rfl, Nat.le_refl _, fun _ _ _ => rfl⟩, hml, by simp, by simp, by simp, by simp, by simp, by simp, fun _ _ => hown⟩
  have HC := Lib.hid hc; have HM := Lib.hid hM
  have HE := Lib.hid (show plainElem (H := Unit) Try.prog 3 (.int .i64 (c + 1)) = some (.lit (.int .i64 (c + 1)), []) from plainElem_int Try.underlying3 (wf_int _ (by omega)))
  have HZ := Lib.hid (show plainElem (H := Unit) Try.prog 3 (.int .i64 0) = some (.lit (.int .i64 0), []) from plainElem_int Try.underlying3 (wf_int _ (by omega)))
  have HWR := Lib.hid (show wrap64 (c + 1) = c + 1 by simp only [wrap64]; omega)
  have HNL := Lib.hid (show N < maxLen by simp only [maxLen]; omega)
  clear h hB hr hc hM hown hkl hml
  go_enter Try.func97, Try.ntmps97
  refine wp_region_steps (by kernel_rfl) (by kernel_rfl) (fun g : Value × Nat => [(0, 3, .map (some mb)), (1, 4, .slice (some ⟨rb, 0, none⟩) n n), (2, 5, .agg (row 4 (I (patF (plF r n) n)))), (3, 6, .int .i64 c), (4, 7, .int .i64 (c + 1)), (5, 8, .tuple #[g.1, goInt g.2]), (6, 9, goInt g.2)]) (PW w mb N D kl c) (undef, 0) W0 ?_ ?_
  · refine (And.intro (fun s g wv hW hs hp => ?_) (And.intro (fun s g wv hW hs hp => ?_) (And.intro (fun s g wv hW hs hp => ?_) (And.intro (fun s g wv hW hs hp => ?_) (And.intro (fun s g wv hW hs hp => ?_) (And.intro (fun s g wv hW hs hp => ?_) (And.intro (fun s g wv hW hs hp => ?_) (And.intro (fun s g wv hW hs hp => ?_) True.intro))))))))
    · (try simp [waits, Region.binds, hs] at hp); (first | simp only [frm, List.foldl, Act.put, List.setIfInBounds_toArray, List.set_cons_succ, List.set_cons_zero, hs, hp, cond_true, cond_false] | simp only [frm, List.foldl, Act.put, List.setIfInBounds_toArray, List.set_cons_succ, List.set_cons_zero, hs, cond_true, cond_false]); have HW := Lib.hid hW; clear hW; have B1 : Blk wv B 1 67 (fun _ => .map (some mb)) := HW.out.blk B0.out hBm; have c1 : wv.cell? ⟨B, 0, none⟩ = some (.map (some mb)) := B1.cell (by omega); go_wp2; refine ⟨g, by (first | simp [frm, Act.put, upd, hs, hp] | simp [frm, Act.put, upd, hs]), HW.out.plain (by simp)⟩
    · (try simp [waits, Region.binds, hs] at hp); (first | simp only [frm, List.foldl, Act.put, List.setIfInBounds_toArray, List.set_cons_succ, List.set_cons_zero, hs, hp, cond_true, cond_false] | simp only [frm, List.foldl, Act.put, List.setIfInBounds_toArray, List.set_cons_succ, List.set_cons_zero, hs, cond_true, cond_false]); have HW := Lib.hid hW; clear hW; go_wp2; refine ⟨g, by (first | simp [frm, Act.put, upd, hs, hp] | simp [frm, Act.put, upd, hs]), HW.out.plain (by simp)⟩
    · (try simp [waits, Region.binds, hs] at hp); (first | simp only [frm, List.foldl, Act.put, List.setIfInBounds_toArray, List.set_cons_succ, List.set_cons_zero, hs, hp, cond_true, cond_false] | simp only [frm, List.foldl, Act.put, List.setIfInBounds_toArray, List.set_cons_succ, List.set_cons_zero, hs, cond_true, cond_false]); have HW := Lib.hid hW; clear hW; go_wp2_with fail; go_at_call 50; refine (patternOf_any rb n r h1 hn HR.out _ (HW.out.blk A0.out hrm)).mono ?_; rintro e' w2 ⟨rfl, hb2⟩; have HB2 := Lib.hid hb2; clear hb2; go_wp2; refine ⟨g, by (first | simp [frm, Act.put, upd, hs, hp] | simp [frm, Act.put, upd, hs]), (HW.out.call HB2.out).plain (by simp)⟩
    · (try simp [waits, Region.binds, hs] at hp); (first | simp only [frm, List.foldl, Act.put, List.setIfInBounds_toArray, List.set_cons_succ, List.set_cons_zero, hs, hp, cond_true, cond_false] | simp only [frm, List.foldl, Act.put, List.setIfInBounds_toArray, List.set_cons_succ, List.set_cons_zero, hs, cond_true, cond_false]); have HW := Lib.hid hW; clear hW; obtain ⟨N', D', ho, hat⟩ := HW.out.look hs HM.out KL HC.out; have HO := Lib.hid ho; have HAT := Lib.hid hat; clear ho hat; refine wpList_lookup_own_int _ rfl _ _ 67 rfl 29 3 .i64 keyed4 Try.underlying67 Try.underlying3 (Try.zeroValue3 _) mb N' D' rfl HO.out _ _ rfl HK.out ?_; intro c' hat' _; (obtain rfl : c' = c := by (rw [HAT.out] at hat'; injection hat' with hat'; injection hat' with _ hat'; exact hat'.symm)); clear hat'; go_wp2; refine ⟨g, by (first | simp [frm, Act.put, upd, hs, hp] | simp [frm, Act.put, upd, hs]), HW.out.plain (by simp)⟩
    · (try simp [waits, Region.binds, hs] at hp); (first | simp only [frm, List.foldl, Act.put, List.setIfInBounds_toArray, List.set_cons_succ, List.set_cons_zero, hs, hp, cond_true, cond_false] | simp only [frm, List.foldl, Act.put, List.setIfInBounds_toArray, List.set_cons_succ, List.set_cons_zero, hs, cond_true, cond_false]); have HW := Lib.hid hW; clear hW; go_wp2; (try rw [HWR.out]); refine ⟨g, by (first | simp [frm, Act.put, upd, hs, hp] | simp [frm, Act.put, upd, hs]), HW.out.plain (by simp [hp])⟩
    · (try simp [waits, Region.binds, hs] at hp); (first | simp only [frm, List.foldl, Act.put, List.setIfInBounds_toArray, List.set_cons_succ, List.set_cons_zero, hs, hp, cond_true, cond_false] | simp only [frm, List.foldl, Act.put, List.setIfInBounds_toArray, List.set_cons_succ, List.set_cons_zero, hs, cond_true, cond_false]); have HW := Lib.hid hW; clear hW; refine wpList_mapEntry_own _ rfl _ _ 67 rfl laws4 Try.underlying67 Try.zeroValue3 HZ.out mb N D rfl (HW.out.before hs) HNL.out _ _ rfl HK.out ?_; intro v0 st w2 ho hg hE; rw [HC.out] at ho; have HO := Lib.hid ho; have HG := Lib.hid hg; have HEN := Lib.hid hE; clear ho hg hE; have h6 := HW.out.no6 hs; go_wp2; refine ⟨(v0, st), by simp [frm, Act.put, upd, hs, hp, h6], HW.out.enter hs HO.out HG.out HEN.out⟩
    · (try simp [waits, Region.binds, hs] at hp); (first | simp only [frm, List.foldl, Act.put, List.setIfInBounds_toArray, List.set_cons_succ, List.set_cons_zero, hs, hp, cond_true, cond_false] | simp only [frm, List.foldl, Act.put, List.setIfInBounds_toArray, List.set_cons_succ, List.set_cons_zero, hs, cond_true, cond_false]); have HW := Lib.hid hW; clear hW; go_wp2; refine ⟨g, by (first | simp [frm, Act.put, upd, hs, hp] | simp [frm, Act.put, upd, hs]), HW.out.plain (by simp [hp])⟩
    · (try simp [waits, Region.binds, hs] at hp); (first | simp only [frm, List.foldl, Act.put, List.setIfInBounds_toArray, List.set_cons_succ, List.set_cons_zero, hs, hp, cond_true, cond_false] | simp only [frm, List.foldl, Act.put, List.setIfInBounds_toArray, List.set_cons_succ, List.set_cons_zero, hs, cond_true, cond_false]); have HW := Lib.hid hW; clear hW; refine wpList_entryStore_own _ rfl _ _ _ 67 rfl mb N D kl g.2 rfl rfl (HW.out.entry hs (by simp [hp])) _ rfl _ _ HE.out ?_; intro w2 ho hg; have HO := Lib.hid ho; have HG := Lib.hid hg; clear ho hg; go_wp2; refine ⟨g, by (first | simp [frm, Act.put, upd, hs, hp] | simp [frm, Act.put, upd, hs]), HW.out.stored (by simp [hp]) (by simp [hp]) HO.out HG.out⟩
  · intro s g wg hW hall
    have hs := fun i (hi : i < 8) => hall i (by simpa using hi)
    have HW := Lib.hid hW
    have HO := Lib.hid (hW.2.2.2.2.2.2.1 (hs 7 (by omega)))
    simp only [frm, List.foldl, Act.put, List.setIfInBounds_toArray, List.set_cons_succ, List.set_cons_zero, hs 0 (by omega), hs 1 (by omega), hs 2 (by omega), hs 3 (by omega), hs 4 (by omega), hs 5 (by omega), hs 6 (by omega), cond_true]
    clear hW hs hall
    go_end0
    exact ⟨rfl, HO.out, HW.out.1⟩
end Go.Proofs.Ytbfhfadfjgfmaaa

/- The program's patterns: the map that holds in how many rolls each pattern comes up. -/
set_option linter.unusedVariables false
set_option linter.unusedSimpArgs false
set_option linter.unusedSectionVars false
namespace Go.Proofs.Ytbfhfadfjgfmaaa
open Go.RowKit Go.Maps
theorem plF_out (r : Nat → Int) : ∀ n p, n ≤ p → plF r n p = 0
  | 0, _, _ => rfl
  | n + 1, p, h => by
    have h0 := posF_le (plF r n) (r n) n
    simp only [plF, insAt]
    rw [if_neg (by omega), if_neg (by omega), if_neg (by omega)]
    exact plF_out r n p (by omega)
theorem plF_idem (r : Nat → Int) (n : Nat) : plF (plF r n) n = plF r n := by
  funext p
  by_cases h : p < n
  · exact desc_eq (plF_desc _ n) (plF_desc r n) (fun z => hc_plF _ _ _) p h
  · rw [plF_out _ _ _ (by omega), plF_out _ _ _ (by omega)]
/-- The pattern of the roll with a number. -/
def patN (n : Nat) (x : Nat → Nat → Int) (m : Nat) : Nat → Int := patF (plF (rollF n x m) n) n
def same4 (f g : Nat → Int) : Bool := decide (f 0 = g 0) && decide (f 1 = g 1) && decide (f 2 = g 2) && decide (f 3 = g 3)
theorem same4_iff (f g : Nat → Int) : same4 f g = true ↔ ∀ p, p < 4 → f p = g p := by
  simp only [same4, Bool.and_eq_true, decide_eq_true_eq]
  constructor
  · rintro ⟨⟨⟨h0, h1⟩, h2⟩, h3⟩ p hp
    match p, hp with
    | 0, _ => exact h0
    | 1, _ => exact h1
    | 2, _ => exact h2
    | 3, _ => exact h3
  · intro h
    exact ⟨⟨⟨h 0 (by omega), h 1 (by omega)⟩, h 2 (by omega)⟩, h 3 (by omega)⟩
theorem kl4_same {f g : Nat → Int} (h : same4 f g = true) : kl4 f = kl4 g := by
  have h := (same4_iff f g).1 h
  unfold kl4
  rw [h 0 (by omega), h 1 (by omega), h 2 (by omega), h 3 (by omega)]
/-- In how many of the first M rolls the pattern f comes up. -/
def cntP (n : Nat) (x : Nat → Nat → Int) (f : Nat → Int) : Nat → Nat
  | 0 => 0
  | M + 1 => cntP n x f M + (if same4 (patN n x M) f then 1 else 0)
theorem same4_left {f g : Nat → Int} (h : same4 f g = true) (q : Nat → Int) : same4 q f = same4 q g := by
  have h := (same4_iff f g).1 h
  unfold same4
  rw [h 0 (by omega), h 1 (by omega), h 2 (by omega), h 3 (by omega)]
theorem cntP_same {f g : Nat → Int} (n : Nat) (x : Nat → Nat → Int) (h : same4 f g = true) : ∀ M, cntP n x f M = cntP n x g M
  | 0 => rfl
  | M + 1 => by simp only [cntP]; rw [cntP_same n x h M, same4_left h]
theorem cntP_le (n : Nat) (x : Nat → Nat → Int) (f : Nat → Int) : ∀ M, cntP n x f M ≤ M
  | 0 => Nat.le_refl _
  | M + 1 => by have := cntP_le n x f M; simp only [cntP]; split <;> omega
theorem patN_bd (n : Nat) (x : Nat → Nat → Int) (m j : Nat) : 0 ≤ patN n x m j ∧ patN n x m j ≤ n := patF_bd _ _ _
def Wf4 (f : Nat → Int) : Prop := ∀ p, p < 4 → (Lit.int .i64 (f p)).wf = true
theorem patN_wf (n : Nat) (x : Nat → Nat → Int) (hn : n ≤ 4) (m : Nat) : Wf4 (patN n x m) := fun p _ => wf_int _ (by have := patN_bd n x m p; omega)
/-- The map of the patterns of the first M rolls. -/
def PatOf (n : Nat) (x : Nat → Nat → Int) (M : Nat) (D : DataW Unit) : Prop :=
  Tidy D ∧ (∀ f, Wf4 f → D.atKey (kl4 f) (.lit (.int .i64 0)) = .lit (.int .i64 (cntP n x f M : Nat))) ∧ (∀ f, Wf4 f → has D (kl4 f) = decide (0 < cntP n x f M))
theorem patOf_zero (n : Nat) (x : Nat → Nat → Int) : PatOf n x 0 (.map []) := ⟨tidy_empty, fun f _ => rfl, fun f _ => rfl⟩
theorem kl4_key (f : Nat → Int) : WideAt.IsKeyLit (kl4 f) := trivial
theorem patOf_step {n : Nat} {x : Nat → Nat → Int} (hn : n ≤ 4) {M : Nat} {D : DataW Unit} (h : PatOf n x M D) : PatOf n x (M + 1) (D.put (kl4 (patN n x M)) (.lit (.int .i64 ((cntP n x (patN n x M) M : Nat) + 1)))) := by
  obtain ⟨h1, h2, h3⟩ := h
  have hs : same4 (patN n x M) (patN n x M) = true := (same4_iff _ _).2 (fun _ _ => rfl)
  refine ⟨h1.put (kl4_key _) _, fun f hf => ?_, fun f hf => ?_⟩
  · cases e : same4 (patN n x M) f
    · have hne : kl4 f ≠ kl4 (patN n x M) := fun q => by
        have := (same4_iff _ _).2 (key4_inj (patN_wf n x hn M) hf q.symm)
        rw [e] at this; cases this
      rw [atKey_put_other hne, h2 f hf]
      simp only [cntP, e]
      rfl
    · rw [← kl4_same e, atKey_put_same h1.isMap (kl4_key _)]
      simp only [cntP, e, if_true]
      rw [cntP_same n x e M]
      rfl
  · have eo : cntP n x f (M + 1) = cntP n x f M + (if same4 (patN n x M) f then 1 else 0) := rfl
    rw [eo]
    cases e : same4 (patN n x M) f
    · have hne : kl4 f ≠ kl4 (patN n x M) := fun q => by
        have := (same4_iff _ _).2 (key4_inj (patN_wf n x hn M) hf q.symm)
        rw [e] at this; cases this
      rw [has_put_other hne, h3 f hf]
      rfl
    · rw [← kl4_same e, has_put_same h1.isMap (kl4_key _)]
      simp
set_option maxHeartbeats 1000000 in
theorem rolls_pat (o : Option Addr) (n c : Nat) (x : Nat → Nat → Int) (g : poolB n x = true) (B mb : Nat) (hBm : B ≠ mb) (w : World) (h : PoolAt w o n x) (hP : ∀ a, o = some a → a.block < mb) (hB : Blk w B 1 67 (fun _ => .map (some mb))) (hM : w.ownsMap Try.prog 29 (plainElem (H := Unit) Try.prog 3) mb 0 (.map [])) :
    Calls Try.prog 96 #[poolV o n c, .func (.func 97) #[] #[.pointer (some ⟨B, 0, none⟩)]] w fun e w' => e = .returned (.tuple #[]) ∧ (∃ D : DataW Unit, w'.ownsMap Try.prog 29 (plainElem Try.prog 3) mb (sixN n) D ∧ PatOf n x (sixN n) D) ∧ w.grownBy w' (some mb) := by
  have H := Lib.hid h; clear h
  obtain ⟨n1, n4⟩ := pool_le g
  have n8 : n ≤ 8 := by omega
  have s3 := sixN_small n4
  have HS := Lib.hid (pool_small g)
  have HPL := Lib.hid hP
  have BB := Lib.hid hB
  have ML := Lib.hid (hM.lt)
  have MM := Lib.hid hM
  clear g hP hB hM
  go_enter Try.func96, Try.ntmps96
  go_wp2_with fail
  go_at_call 63
  refine (power_any n n8 _).mono ?_
  rintro e w' ⟨rfl, rfl⟩
  go_wp2
  go_loopw [9] (fun i wr => ∃ (m : Nat) (D : DataW Unit), m ≤ sixN n ∧ i = .int .i64 (m : Int) ∧ wr.ownsMap Try.prog 29 (plainElem Try.prog 3) mb m D ∧ PatOf n x m D ∧ w.grownBy wr (some mb)) (fun i _ => 1300 - (RowKit.intOf i).toNat)
  case atStart => exact ⟨0, _, by omega, rfl, MM.out, patOf_zero n x, grown_refl _ _⟩
  case round =>
    obtain ⟨m, D, hm, rfl, hR, hD, hG⟩ := hrel
    have R1 := Lib.hid hR; have D1 := Lib.hid hD; have G1 := Lib.hid hG
    clear hR hG hD MM
    by_cases hlt : m < sixN n
    · have d0 : decide (m < sixN n) = true := by simp; omega
      obtain ⟨wo, rfl⟩ : ∃ wo : World, wo = wr := ⟨_, rfl⟩
      go_wp2_with fail
      go_at_call 51
      refine (rollAt_any o n c x m n1 n4 (by omega) _ (pool_grown H.out HPL.out G1.out)).mono ?_
      rintro e w1 ⟨rfl, hA, hb⟩
      have A1 := Lib.hid hA; have HB1 := Lib.hid hb
      clear hA hb
      go_wp2_with fail
      go_at_call 117
      refine (sortFunc_any wo.heap.size n (rollF n x m) (by omega) (fun j hj => by have := rollF_bd HS.out m j hj; omega) _ A1.out).mono ?_
      rintro e w2 ⟨rfl, hA, hg2⟩
      have A2 := Lib.hid hA; have G2 := Lib.hid hg2
      clear hA hg2
      have SZ := Lib.hid G1.out.size
      have R2 := Lib.hid (show w2.ownsMap Try.prog 29 (plainElem (H := Unit) Try.prog 3) mb m D from (R1.out.kept (grown_none HB1.out none) (by simp)).kept G2.out (fun e => by injection e with e; have := R1.out.lt; omega))
      have G3 := Lib.hid (show w.grownBy w2 (some mb) from grown_trans (grown_trans G1.out (grown_none HB1.out none) (fun k e => by cases e)) G2.out (fun k e => .inr (by injection e with e; have := SZ.out; omega)))
      have B2 := Lib.hid (show Blk w2 B 1 67 (fun _ => .map (some mb)) from BB.out.grown G3.out (fun e => by injection e with e; exact hBm e))
      have HX := Lib.hid (show patF (plF (plF (rollF n x m) n) n) n = patN n x m by rw [plF_idem]; rfl)
      have HC := Lib.hid (D1.out.2.1 (patN n x m) (patN_wf n x n4 m))
      have HL := Lib.hid (cntP_le n x (patN n x m) m)
      go_wp2_with fail
      go_at_call 97
      refine (patC_any wo.heap.size n (plF (rollF n x m) n) n1 n4 (fun j hj => by have := plF_bd (rollF_bd HS.out m) (Nat.le_refl n) hj; omega) B mb m (by omega) D D1.out.1.isMap (cntP n x (patN n x m) m : Nat) (by have := HL.out; omega) (by rw [HX.out]; exact HC.out) (by have := R1.out.lt; omega) hBm _ A2.out B2.out R2.out).mono ?_
      rintro e w3 ⟨rfl, hR3, hg3⟩
      rw [HX.out] at hR3
      have R3 := Lib.hid hR3; have G4 := Lib.hid hg3
      clear hR3 hg3
      go_wp2
      go_roundw
      case rel => exact ⟨m + 1, _, by omega, by go_num, R3.out, patOf_step n4 D1.out, grown_trans G3.out G4.out (fun k e => .inl e.symm)⟩
      case measure => simp [RowKit.intOf]; omega
    · have d0 : decide (m < sixN n) = false := by simp; omega
      obtain rfl : m = sixN n := by omega
      go_wp2
      go_end0
      exact ⟨rfl, ⟨D, R1.out, D1.out⟩, G1.out⟩
set_option maxHeartbeats 1000000 in
theorem patterns_any (o : Option Addr) (n c : Nat) (x : Nat → Nat → Int) (g : poolB n x = true) (w : World) (h : PoolAt w o n x) : Calls Try.prog 56 #[poolV o n c] w fun e w' => e = .returned (.map (some w.heap.size)) ∧ (∃ D : DataW Unit, w'.ownsMap Try.prog 29 (plainElem Try.prog 3) w.heap.size (sixN n) D ∧ PatOf n x (sixN n) D) ∧ Below w.heap.size w w' := by
  have H := Lib.hid h; clear h
  have G := Lib.hid g
  have HPL := Lib.hid (pool_lt H.out (pool_le g).1)
  have hmm := @run_makeMap Try.prog
  clear g
  go_enter Try.func56, Try.ntmps56
  go_wp2_with fail
  generalize hW : (w.alloc (.map #[] 0)).alloc (.cells #[.map (some w.heap.size)] 67) = W0
  have M0 := Lib.hid (show W0.ownsMap Try.prog 29 (plainElem (H := Unit) Try.prog 3) w.heap.size 0 (.map []) from hW ▸ (World.ownsMap_made w Try.prog 29 _).alloc _)
  have B0 := Lib.hid (show Blk W0 (w.heap.size + 1) 1 67 (fun _ => .map (some w.heap.size)) from hW ▸ Blk.newAt (by simp) rfl)
  have HB0 := Lib.hid (show Below w.heap.size w W0 from hW ▸ ((Below.refl _ _).alloc (Nat.le_refl _) _).alloc (by simp) _)
  have H0 := Lib.hid (H.out.below HB0.out)
  clear hW hmm
  go_at_call 96
  refine (rolls_pat o n c x G.out (w.heap.size + 1) w.heap.size (by omega) _ H0.out (fun a ha => HPL.out a ha) B0.out M0.out).mono ?_
  rintro e w1 ⟨rfl, ⟨D, hM, hD⟩, hg1⟩
  have B1 := Lib.hid (B0.out.grown hg1 (fun e => by injection e with e; omega))
  have HB1 := Lib.hid (below_grown HB0.out hg1 (fun g e => by injection e with e; omega) HB0.out.size)
  have M1 := Lib.hid hM; have D1 := Lib.hid hD
  have c1 : w1.cell? ⟨w.heap.size + 1, 0, none⟩ = some (.map (some w.heap.size)) := B1.out.cell (by omega)
  clear hg1 hM hD
  go_wp2
  go_ret
  exact ⟨rfl, ⟨D, M1.out, D1.out⟩, HB1.out⟩
end Go.Proofs.Ytbfhfadfjgfmaaa

/- Patterns as arguments: copied, compared, told whether they are valid. -/
set_option linter.unusedVariables false
set_option linter.unusedSimpArgs false
set_option linter.unusedSectionVars false
namespace Go.Proofs.Ytbfhfadfjgfmaaa
open Go.RowKit
theorem toA4_any (d : Nat → Int) (w : World) :
    Calls Try.prog 21 #[.agg (row 4 (I d))] w fun e w' => e = .returned (.agg (row 4 (I d))) ∧ Below w.heap.size w w' := by
  go_enter Try.func21, Try.ntmps21
  go_wp2
  go_loopw [4] (fun i wr => ∃ k : Nat, k ≤ 4 ∧ i = .int .i64 k ∧ Blk wr w.heap.size 4 29 (I d) ∧ Blk wr (w.heap.size + 1) 4 29 (I fun _ => 0) ∧ Blk wr (w.heap.size + 1 + 1) 4 29 (I fun j => if j < k then d j else 0) ∧ Below w.heap.size w wr) (fun i _ => 4 - (RowKit.intOf i).toNat)
  case atStart =>
    refine ⟨0, by omega, rfl, ?_, ?_, ?_, ?_⟩
    · exact ((Blk.new _ _ _ _).alloc _).alloc _
    · exact (Blk.newAt (by simp) (by rfl)).alloc _
    · exact Blk.newAt (by simp) (by rfl)
    · exact (((Below.refl _ _).alloc (by omega) _).alloc (by simp) _).alloc (by simp; omega) _
  case round =>
    obtain ⟨k, hk, rfl, h0, h1, h2, hb⟩ := hrel
    by_cases hlt : k < 4
    · have c0 : wr.cell? ⟨w.heap.size, k, none⟩ = some (.int .i64 (d k)) := h0.cell hlt
      have c2 : wr.cell? ⟨w.heap.size + 1 + 1, k, none⟩ = some (I (fun j => if j < k then d j else 0) k) := h2.cell hlt
      have f2 := h2.free k
      have H0 := Lib.hid h0; have H1 := Lib.hid h1; have H2 := Lib.hid h2; have HB := Lib.hid hb
      clear h0 h1 h2 hb
      go_wp2
      go_roundw
      case rel =>
        refine ⟨k + 1, by omega, by go_num, H0.out.other _ _ (by simp; try omega), H1.out.other _ _ (by simp), ?_, HB.out.setCell (by simp; try omega) _⟩
        refine (H2.out.set hlt _).ext fun i hi => ?_
        simp only [upd, I]
        by_cases e : i = k
        · subst e; simp
        · rw [if_neg e]; by_cases e2 : i < k
          · rw [if_pos e2, if_pos (by omega)]
          · rw [if_neg e2, if_neg (by omega)]
      case measure => simp [RowKit.intOf]; omega
    · obtain rfl : k = 4 := by omega
      have H0 := Lib.hid h0; have H1 := Lib.hid h1; have H2 := Lib.hid h2; have HB := Lib.hid hb
      clear h0 h1 h2 hb
      go_wp2_with (first | (refine wpList_load_blk rfl 29 _ rfl H2.out rfl Try.underlying29 sz4 ?_) | (refine wpList_store_blk rfl 29 _ _ rfl H1.out rfl rfl sz4 (fun _ _ => rfl) ?_))
      refine post_blk rfl (H1.out.setRow _) rfl Try.underlying29 sz4 rfl ⟨?_, below_setRow HB.out (by simp) _⟩
      congr 2
theorem run_eql4 (w : World) (p q : Operand) (f g : Nat → Int) : (do eqGuard .eql 29 p q (.agg (row 4 (I f))) (.agg (row 4 (I g))); binOp .eql 29 (.agg (row 4 (I f))) (.agg (row 4 (I g)))).run Try.prog w = .ok (.bool (eqB 4 f g)) w := by
  have h1 := run_equal_arr (P := Try.prog) w 9998 4 29 3 f g Try.underlying29 Try.underlying3 Try.isAgg3 (fun w => by kernel_rfl)
  rw [Sem.run_bind, run_eqGuard_agg (P := Try.prog) w .eql 29 p q _ _ (by kernel_rfl), Result.andThen_ok, run_eql_struct, h1]
  rfl
theorem wpList_eql4 {ops : Array Oper} {rest : List Oper} {o : Oper} {a : Act} {w : World} {Q : Exit → Act → World → Prop} (hw : Region.wanted o (yielded ops a.tmps) = true) {p q : Operand} {k : TypeId} (ho : o.op = .binOp .eql 29 p q k) {f g : Nat → Int}
    (hx : a.eval p = .agg (row 4 (I f))) (hy : a.eval q = .agg (row 4 (I g))) (h : wpList Try.prog ops Q rest (a.put o.dst (.bool (eqB 4 f g))) w) : wpList Try.prog ops Q (o :: rest) a w := by
  have hr := run_eql4 w p q f g
  unfold wpList
  rw [if_pos hw]
  left
  unfold Oper.wp execOp
  simp only [ho, hx, hy]
  simp only [Sem.run_bind] at hr ⊢
  rw [hr]
  exact h
theorem eqB_same (f g : Nat → Int) : eqB 4 f g = same4 f g := by
  simp [eqB, same4, List.range', Bool.and_assoc]
  rfl
/-- Place k of a pattern of n dice is right. -/
def okP (d : Nat → Int) (n : Nat) (k : Nat) : Prop := (0 ≤ d k ∧ d k ≤ (n : Int)) ∧ (0 < k → d k ≤ d (k - 1))
open Classical in
noncomputable def valB (d : Nat → Int) (n : Nat) : Bool := decide (∀ k, k < 4 → okP d n k) && decide (sumF d 4 = (n : Int))
theorem valB_no {d : Nat → Int} {n k : Nat} (hk : k < 4) (h : ¬ okP d n k) : valB d n = false := by
  simp only [valB, Bool.and_eq_false_iff, decide_eq_false_iff_not]
  exact .inl (fun h' => h (h' k hk))
theorem valB_yes {d : Nat → Int} {n : Nat} (h : ∀ k, k < 4 → okP d n k) : valB d n = decide (sumF d 4 = (n : Int)) := by
  unfold valB
  rw [Bool.and_eq_right_iff_imp.2 (fun _ => by simpa using h)]
theorem sum_ok {d : Nat → Int} {n : Nat} (hn : n ≤ 4) : ∀ k, k ≤ 4 → (∀ j, j < k → okP d n j) → 0 ≤ sumF d k ∧ sumF d k ≤ 4 * k := by
  intro k hk h
  have := sumF_bd (f := d) (m := 4) k (fun j hj => by have := (h j hj).1; omega)
  omega
set_option maxHeartbeats 1000000 in
theorem l4Valid_any (d : Nat → Int) (n : Nat) (hn : n ≤ 4) (w : World) :
    Calls Try.prog 52 #[.agg (row 4 (I d)), .int .i64 (n : Int)] w fun e w' => e = .returned (.bool (valB d n)) ∧ Below w.heap.size w w' := by
  go_enter Try.func52, Try.ntmps52
  go_wp2
  go_loopw [5, 6] (fun s i wr => ∃ k : Nat, k ≤ 4 ∧ i = .int .i64 k ∧ s = .int .i64 (sumF d k) ∧ Blk wr w.heap.size 4 29 (I d) ∧ Below w.heap.size w wr ∧ Hid (∀ j, j < k → okP d n j)) (fun _ i _ => 4 - (RowKit.intOf i).toNat)
  case atStart =>
    exact ⟨0, by omega, rfl, rfl, Blk.new _ _ _ _, (Below.refl _ _).alloc (by omega) _, fun j hj => by omega⟩
  case round =>
    obtain ⟨k, hk, rfl, rfl, h0, hb, HO⟩ := hrel
    have hs := sum_ok hn k hk HO.out
    obtain ⟨s, hsk⟩ : ∃ s, s = sumF d k := ⟨_, rfl⟩
    rw [← hsk] at hs ⊢
    obtain ⟨hs1, hs2⟩ := hs
    by_cases hlt : k < 4
    · have HS := Lib.hid (show sumF d (k + 1) = s + d k by rw [hsk]; rfl)
      clear hsk
      have c0 : wr.cell? ⟨w.heap.size, k, none⟩ = some (.int .i64 (d k)) := h0.cell hlt
      have c1 : wr.cell? ⟨w.heap.size, k - 1, none⟩ = some (.int .i64 (d (k - 1))) := h0.cell (by omega)
      have H0 := Lib.hid h0; have HB := Lib.hid hb
      have F := Lib.hid (fun h : ¬ okP d n k => valB_no hlt h)
      have G := Lib.hid (fun h : okP d n k => (fun j hj => if e : j = k then e ▸ h else HO.out j (by omega) : ∀ j, j < k + 1 → okP d n j))
      clear h0 hb
      by_cases g : 0 ≤ d k ∧ d k ≤ (n : Int)
      · obtain ⟨g1, g2⟩ := g
        by_cases hk0 : 0 < k
        · by_cases g4 : d (k - 1) < d k
          · have b1 : decide (d (k - 1) < d k) = true := by simp; omega
            go_wp2
            go_quiet ((go_at_call 84; exact quiet_eq (in_any _ _ _ _)))
            go_wp2
            go_ret
            exact ⟨by rw [F.out (fun h => by have := h.2 hk0; omega)]; rfl, below_drewN HB.out _⟩
          · have b1 : decide (d (k - 1) < d k) = false := by simp; omega
            go_wp2
            go_quiet ((go_at_call 84; exact quiet_eq (in_any _ _ _ _)))
            go_wp2
            go_roundw
            case rel => exact ⟨k + 1, by omega, by go_num, by rw [HS.out], H0.out.drewN _, below_drewN HB.out _, G.out ⟨⟨g1, g2⟩, fun _ => by omega⟩⟩
            case measure => simp [RowKit.intOf]; omega
        · obtain rfl : k = 0 := by omega
          go_wp2
          go_quiet ((go_at_call 84; exact quiet_eq (in_any _ _ _ _)))
          go_wp2
          go_roundw
          case rel => exact ⟨0 + 1, by omega, by go_num, by rw [HS.out], H0.out.drewN _, below_drewN HB.out _, G.out ⟨⟨g1, g2⟩, fun _ => by omega⟩⟩
          case measure => simp [RowKit.intOf]
      · have b2 : (decide (0 ≤ d k) && decide (d k ≤ (n : Int))) = false := by rw [← Bool.decide_and]; simpa using g
        go_wp2
        go_quiet ((go_at_call 84; exact quiet_eq (in_any _ _ _ _)))
        go_wp2
        go_ret
        exact ⟨by rw [F.out (fun h => g h.1)]; rfl, below_drewN HB.out _⟩
    · obtain rfl : k = 4 := by omega
      have H := Lib.hid (valB_yes (d := d) (n := n) fun j hj => HO.out j (by omega))
      rw [← hsk] at H
      clear hsk
      go_wp2
      go_ret
      exact ⟨by rw [H.out]; rfl, hb⟩
set_option maxHeartbeats 1000000 in
theorem isPattern_any (d : Nat → Int) (n : Nat) (hn : n ≤ 4) (w : World) :
    Calls Try.prog 55 #[.agg (row 4 (I d)), .int .i64 (n : Int)] w fun e w' => e = .returned (.bool (valB d n)) ∧ Below w.heap.size w w' := by
  go_enter Try.func55, Try.ntmps55
  go_wp2_with (first | (refine wpList_load_blk rfl 29 _ rfl ((Blk.new _ _ _ _)) rfl Try.underlying29 sz4 ?_) | fail)
  go_loopw [8] (fun i wr => ∃ k : Nat, k ≤ 4 ∧ i = .int .i64 k ∧ Blk wr w.heap.size 4 29 (I d) ∧ Below w.heap.size w wr ∧ Hid (∀ j, j < k → okP d n j)) (fun i _ => 4 - (RowKit.intOf i).toNat)
  case atStart =>
    exact ⟨0, by omega, rfl, Blk.new _ _ _ _, (Below.refl _ _).alloc (by omega) _, fun j hj => by omega⟩
  case round =>
    obtain ⟨k, hk, rfl, h0, hb, HO⟩ := hrel
    by_cases hlt : k < 4
    · have hix : ∀ w, (Instr.index 29 (.agg (row 4 (I d))) (.int .i64 (k : Nat))).run Try.prog w = .ok (.int .i64 (d k)) w := index_row (f := I d) Try.underlying29 Try.sizeOf3 Try.isAgg3 hlt
      have c1 : wr.cell? ⟨w.heap.size, k - 1, none⟩ = some (.int .i64 (d (k - 1))) := h0.cell (by omega)
      have H0 := Lib.hid h0; have HB := Lib.hid hb
      have F := Lib.hid (fun h : ¬ okP d n k => valB_no hlt h)
      have G := Lib.hid (fun h : okP d n k => (fun j hj => if e : j = k then e ▸ h else HO.out j (by omega) : ∀ j, j < k + 1 → okP d n j))
      clear h0 hb
      by_cases g : 0 ≤ d k ∧ d k ≤ (n : Int)
      · have b2 : (decide (0 ≤ d k) && decide (d k ≤ (n : Int))) = true := by rw [← Bool.decide_and]; simpa using g
        obtain ⟨g1, g2⟩ := g
        by_cases hk0 : 0 < k
        · by_cases g4 : d (k - 1) < d k
          · have b1 : decide (d (k - 1) < d k) = true := by simp; omega
            have g5 := Lib.hid g4
            clear g4
            go_wp2_with (go_at_call 85; refine (within_any _ _ _ _).mono ?_; rintro e w' ⟨rfl, rfl⟩; rw [b2])
            go_ret
            exact ⟨by rw [F.out (fun h => by have := h.2 hk0; have := g5.out; omega)]; rfl, HB.out⟩
          · have b1 : decide (d (k - 1) < d k) = false := by simp; omega
            have g5 := Lib.hid g4
            clear g4
            go_wp2_with (go_at_call 85; refine (within_any _ _ _ _).mono ?_; rintro e w' ⟨rfl, rfl⟩; rw [b2])
            go_roundw
            case rel => exact ⟨k + 1, by omega, by go_num, H0.out, HB.out, G.out ⟨⟨g1, g2⟩, fun _ => by have := g5.out; omega⟩⟩
            case measure => simp [RowKit.intOf]; omega
        · have b3 : decide ((0 : Int) < (k : Int)) = false := by simp; omega
          have hk1 := Lib.hid hk0
          clear hk0
          go_wp2_with (go_at_call 85; refine (within_any _ _ _ _).mono ?_; rintro e w' ⟨rfl, rfl⟩; rw [b2])
          go_roundw
          case rel => exact ⟨k + 1, by omega, by go_num, H0.out, HB.out, G.out ⟨⟨g1, g2⟩, fun h => absurd h hk1.out⟩⟩
          case measure => simp [RowKit.intOf]; omega
      · have b2 : (decide (0 ≤ d k) && decide (d k ≤ (n : Int))) = false := by rw [← Bool.decide_and]; simpa using g
        go_wp2_with (go_at_call 85; refine (within_any _ _ _ _).mono ?_; rintro e w' ⟨rfl, rfl⟩; rw [b2])
        go_ret
        exact ⟨by rw [F.out (fun h => g h.1)]; rfl, HB.out⟩
    · obtain rfl : k = 4 := by omega
      have H := Lib.hid (valB_yes (d := d) (n := n) fun j hj => HO.out j (by omega))
      have hs := sum_ok hn 4 (by omega) (fun j hj => HO.out j hj)
      have H0 := Lib.hid h0; have HB := Lib.hid hb
      have HD := Lib.hid (show ∀ j, j < 4 → 0 ≤ d j ∧ d j ≤ 4 from fun j hj => by have := (HO.out j hj).1; omega)
      clear h0 hb
      go_wp2_with fail
      go_at_call 95
      refine (total_any w.heap.size 4 29 d 4 (by omega) (by omega) HD.out _ H0.out).mono ?_
      rintro e w' ⟨rfl, rfl⟩
      go_wp2
      go_ret
      exact ⟨by rw [H.out]; rfl, HB.out⟩
end Go.Proofs.Ytbfhfadfjgfmaaa

/- WaysOfPattern, both sides. Written by gen_patw.py. -/
set_option linter.unusedVariables false
set_option linter.unusedSimpArgs false
set_option linter.unusedSectionVars false
namespace Go.Proofs.Ytbfhfadfjgfmaaa
open Go.RowKit Go.Maps
/-- A region whose operation i makes something, at g, that later calls leave as it is. -/
def WG {G : Type} (W0 : World) (i : Nat) (F : G → World → Prop) (s : Nat → Bool) (g : G) (w : World) : Prop := Grew W0 w ∧ (s i = true → F g w)
namespace WG
variable {G : Type} {W0 w w' : World} {i j : Nat} {F : G → World → Prop} {s : Nat → Bool} {g : G}
theorem init (g : G) : WG W0 i F (fun _ => false) g W0.drew := ⟨⟨rfl, rfl, rfl, Nat.le_refl _, fun _ _ => rfl⟩, by intro h; cases h⟩
theorem keep (h : WG W0 i F s g w) (hj : j ≠ i) : WG W0 i F (upd s j true) g w := by
  unfold WG upd at *
  rw [if_neg (fun e => hj e.symm)]
  exact h
theorem call (h : WG W0 i F s g w) (hF : ∀ g w w', F g w → Below w.heap.size w w' → F g w') (hb : Below w.heap.size w w') (hj : j ≠ i) : WG W0 i F (upd s j true) g w' :=
  keep ⟨h.1.below.trans (hb.mono h.1.below.size), fun hs => hF _ _ _ (h.2 hs) hb⟩ hj
theorem made (h : WG W0 i F s g w) (hb : Below w.heap.size w w') {g' : G} (hp : F g' w') : WG W0 i F (upd s i true) g' w' :=
  ⟨h.1.below.trans (hb.mono h.1.below.size), fun _ => hp⟩
end WG
noncomputable def waysB (n : Nat) (x : Nat → Nat → Int) (d : Nat → Int) : Bool := poolB n x && valB d n
noncomputable def waysV (n : Nat) (x : Nat → Nat → Int) (d : Nat → Int) : Int := if waysB n x d then (cntP n x d (sixN n) : Nat) else 0
theorem ways_no {n : Nat} {x : Nat → Nat → Int} {d : Nat → Int} (h : waysB n x d = false) : waysV n x d = 0 := by unfold waysV; rw [h]; rfl
theorem ways_yes {n : Nat} {x : Nat → Nat → Int} {d : Nat → Int} (h : waysB n x d = true) : waysV n x d = (cntP n x d (sixN n) : Nat) := by unfold waysV; rw [h]; rfl
theorem val_wf {n : Nat} {d : Nat → Int} (hn : n ≤ 4) (h : valB d n = true) : Wf4 d := fun p hp => by
  refine wf_int _ ?_
  by_cases g : okP d n p
  · have := g.1; omega
  · rw [valB_no hp g] at h; cases h
def RollIn (n : Nat) (x : Nat → Nat → Int) (m : Nat) (g : Nat) (w : World) : Prop := Blk w g n 3 (I (rollF n x m))
theorem rollIn_call (n : Nat) (x : Nat → Nat → Int) (m : Nat) (g : Nat) (w w' : World) (h : RollIn n x m g w) (hb : Below w.heap.size w w') : RollIn n x m g w' := Blk.below h hb (Blk.lt h)
def MapIn (n : Nat) (x : Nat → Nat → Int) (g : Nat) (w : World) : Prop := ∃ D : DataW Unit, w.ownsMap Try.prog 29 (plainElem Try.prog 3) g (sixN n) D ∧ PatOf n x (sixN n) D
theorem mapIn_call (n : Nat) (x : Nat → Nat → Int) (g : Nat) (w w' : World) (h : MapIn n x g w) (hb : Below w.heap.size w w') : MapIn n x g w' := by
  obtain ⟨D, h1, h2⟩ := h
  exact ⟨D, h1.kept (grown_none hb none) (by simp), h2⟩
set_option maxRecDepth 100000 in
set_option maxHeartbeats 2000000 in
theorem sWaysOfPattern_any (o : Option Addr) (n c : Nat) (x : Nat → Nat → Int) (hn : n ≤ 1048576) (d : Nat → Int) (w : World) (h : PoolAt w o n x) : Calls Try.prog 20 #[poolV o n c, .agg (row 4 (I d))] w fun e w' => e = .returned (.tuple #[.int .i64 (waysV n x d), .bool (waysB n x d)]) ∧ Below w.heap.size w w' := by
  have H := Lib.hid h; clear h
  cases g1 : poolB n x
  · have HG := Lib.hid (show waysB n x d = false by unfold waysB; rw [g1]; rfl)
    rw [ways_no HG.out, HG.out]
    go_enter Try.func20, Try.ntmps20
    go_wp2_with fail
    go_at_call 38
    refine (l2Pool_any o n c x hn _ (H.out.alloc _)).mono ?_
    rintro e w1 ⟨rfl, hb1⟩
    have HB1 := Lib.hid hb1; clear hb1
    have HB1 := Lib.hid (((Below.refl w.heap.size w).alloc (by omega) _).trans (HB1.out.mono (by simp)))
    rw [g1]
    go_wp2
    go_ret2
    exact ⟨rfl, HB1.out⟩
  · obtain ⟨n1, n4⟩ := pool_le g1
    have n8 : n ≤ 8 := by omega
    have s3 := sixN_small n4
    cases g2 : valB d n
    · have HG := Lib.hid (show waysB n x d = false by unfold waysB; rw [g1, g2]; rfl)
      rw [ways_no HG.out, HG.out]
      go_enter Try.func20, Try.ntmps20
      go_wp2_with fail
      go_at_call 38
      refine (l2Pool_any o n c x hn _ (H.out.alloc _)).mono ?_
      rintro e w1 ⟨rfl, hb1⟩
      have HB1 := Lib.hid hb1; clear hb1
      have A1 := Lib.hid (show Blk w1 w.heap.size 4 29 (I d) from (Blk.new _ _ _ _).below HB1.out (by simp))
      have HB1 := Lib.hid (((Below.refl w.heap.size w).alloc (by omega) _).trans (HB1.out.mono (by simp)))
      rw [g1]
      go_wp2_with (first | (refine wpList_load_blk rfl 29 _ rfl (A1.out) rfl Try.underlying29 sz4 ?_) | fail)
      go_at_call 52
      refine (l4Valid_any d n n4 _).mono ?_
      rintro e w2 ⟨rfl, hb⟩
      have HB2 := Lib.hid (HB1.out.trans (hb.mono HB1.out.size)); clear hb
      rw [g2]
      go_wp2
      go_ret2
      exact ⟨rfl, HB2.out⟩
    · have HG := Lib.hid (show waysB n x d = true by unfold waysB; rw [g1, g2]; rfl)
      rw [ways_yes HG.out, HG.out]
      go_enter Try.func20, Try.ntmps20
      go_wp2_with fail
      go_at_call 38
      refine (l2Pool_any o n c x hn _ (H.out.alloc _)).mono ?_
      rintro e w1 ⟨rfl, hb1⟩
      have HB1 := Lib.hid hb1; clear hb1
      have A1 := Lib.hid (show Blk w1 w.heap.size 4 29 (I d) from (Blk.new _ _ _ _).below HB1.out (by simp))
      have HB1 := Lib.hid (((Below.refl w.heap.size w).alloc (by omega) _).trans (HB1.out.mono (by simp)))
      rw [g1]
      go_wp2_with (first | (refine wpList_load_blk rfl 29 _ rfl (A1.out) rfl Try.underlying29 sz4 ?_) | fail)
      go_at_call 52
      refine (l4Valid_any d n n4 _).mono ?_
      rintro e w2 ⟨rfl, hb⟩
      have A2 := Lib.hid (A1.out.below hb A1.out.lt)
      have HB2 := Lib.hid (HB1.out.trans (hb.mono HB1.out.size)); clear hb
      rw [g2]
      clear g1 g2
      go_wp2
      go_loopw [6, 7] (fun a i wr => ∃ m : Nat, m ≤ sixN n ∧ i = .int .i64 (m : Int) ∧ a = .int .i64 (cntP n x d m : Nat) ∧ Blk wr w.heap.size 4 29 (I d) ∧ Below w.heap.size w wr) (fun _ i _ => 1300 - (RowKit.intOf i).toNat)
      case atStart => exact ⟨0, by omega, rfl, rfl, A2.out, HB2.out⟩
      case round =>
        obtain ⟨m, hm, rfl, rfl, hA, hB⟩ := hrel
        clear A1 HB1 A2 HB2
        have A3 := Lib.hid hA; have HB3 := Lib.hid hB
        clear hA hB
        have hcl := cntP_le n x d m
        obtain ⟨cm, hcm⟩ : ∃ cm, cm = cntP n x d m := ⟨_, rfl⟩
        rw [← hcm] at hcl ⊢
        by_cases hlt : m < sixN n
        · have d0 : decide (m < sixN n) = true := by simp; omega
          have HS := Lib.hid (show cntP n x d (m + 1) = cm + (if same4 (patN n x m) d then 1 else 0) by rw [hcm]; rfl)
          clear hcm
          have m9 : m ≤ 1000000000 := by omega
          have HPN := Lib.hid (show patF (plF (rollF n x m) n) n = patN n x m from rfl)
          go_wp2_with fail
          go_at_call 53
          refine (l2All_any n n8 _).mono ?_
          rintro e w' ⟨rfl, rfl⟩
          go_wp2
          refine wp_region_steps (by kernel_rfl) (by kernel_rfl) (fun g : Nat => [(0, 25, poolV o n c), (1, 26, .int .i64 (m : Int)), (2, 27, .slice (some ⟨g, 0, none⟩) n n), (3, 28, .agg (row 4 (I (patN n x m)))), (4, 29, .agg (row 4 (I d))), (5, 30, .bool (eqB 4 (patN n x m) d))]) (WG _ 2 (RollIn n x m)) 0 (WG.init 0) ?_ ?_
          · refine (And.intro (fun s g wv hW hs hp => ?_) (And.intro (fun s g wv hW hs hp => ?_) (And.intro (fun s g wv hW hs hp => ?_) (And.intro (fun s g wv hW hs hp => ?_) (And.intro (fun s g wv hW hs hp => ?_) (And.intro (fun s g wv hW hs hp => ?_) True.intro))))))
            · (try simp [waits, Region.binds, hs] at hp); (first | simp only [frm, List.foldl, Act.put, List.setIfInBounds_toArray, List.set_cons_succ, List.set_cons_zero, hs, hp, cond_true, cond_false] | simp only [frm, List.foldl, Act.put, List.setIfInBounds_toArray, List.set_cons_succ, List.set_cons_zero, hs, cond_true, cond_false]); have HW := Lib.hid hW; clear hW; go_wp2; refine ⟨g, by (first | simp [frm, Act.put, upd, hs, hp] | simp [frm, Act.put, upd, hs]), HW.out.keep (by decide)⟩
            · (try simp [waits, Region.binds, hs] at hp); (first | simp only [frm, List.foldl, Act.put, List.setIfInBounds_toArray, List.set_cons_succ, List.set_cons_zero, hs, hp, cond_true, cond_false] | simp only [frm, List.foldl, Act.put, List.setIfInBounds_toArray, List.set_cons_succ, List.set_cons_zero, hs, cond_true, cond_false]); have HW := Lib.hid hW; clear hW; go_wp2; refine ⟨g, by (first | simp [frm, Act.put, upd, hs, hp] | simp [frm, Act.put, upd, hs]), HW.out.keep (by decide)⟩
            · (try simp [waits, Region.binds, hs] at hp); (first | simp only [frm, List.foldl, Act.put, List.setIfInBounds_toArray, List.set_cons_succ, List.set_cons_zero, hs, hp, cond_true, cond_false] | simp only [frm, List.foldl, Act.put, List.setIfInBounds_toArray, List.set_cons_succ, List.set_cons_zero, hs, cond_true, cond_false]); have HW := Lib.hid hW; clear hW; go_wp2_with fail; go_at_call 54; refine (l2Roll_any o n c x m n1 n4 m9 _ ((H.out.below HB3.out).below HW.out.1)).mono ?_; rintro e' w2 ⟨rfl, hp2, hb2⟩; have HP2 := Lib.hid hp2; have HB2 := Lib.hid hb2; clear hp2 hb2; go_wp2; refine ⟨wv.heap.size, by (first | simp [frm, Act.put, upd, hs, hp] | simp [frm, Act.put, upd, hs]), HW.out.made HB2.out HP2.out⟩
            · (try simp [waits, Region.binds, hs] at hp); (first | simp only [frm, List.foldl, Act.put, List.setIfInBounds_toArray, List.set_cons_succ, List.set_cons_zero, hs, hp, cond_true, cond_false] | simp only [frm, List.foldl, Act.put, List.setIfInBounds_toArray, List.set_cons_succ, List.set_cons_zero, hs, cond_true, cond_false]); have HW := Lib.hid hW; clear hW; go_wp2_with fail; go_at_call 48; refine (l4Pattern_any g n _ n4 _ (HW.out.2 (by simp [hp]))).mono ?_; rintro e' w2 ⟨rfl, hb2⟩; have HB2 := Lib.hid hb2; clear hb2; rw [HPN.out]; go_wp2; refine ⟨g, by (first | simp [frm, Act.put, upd, hs, hp] | simp [frm, Act.put, upd, hs]), HW.out.call (rollIn_call n x m) HB2.out (by decide)⟩
            · (try simp [waits, Region.binds, hs] at hp); (first | simp only [frm, List.foldl, Act.put, List.setIfInBounds_toArray, List.set_cons_succ, List.set_cons_zero, hs, hp, cond_true, cond_false] | simp only [frm, List.foldl, Act.put, List.setIfInBounds_toArray, List.set_cons_succ, List.set_cons_zero, hs, cond_true, cond_false]); have HW := Lib.hid hW; clear hW; refine wpList_load_blk rfl 29 _ rfl (A3.out.below HW.out.1 A3.out.lt) rfl Try.underlying29 sz4 ?_; go_wp2; refine ⟨g, by (first | simp [frm, Act.put, upd, hs, hp] | simp [frm, Act.put, upd, hs]), HW.out.keep (by decide)⟩
            · (try simp [waits, Region.binds, hs] at hp); (first | simp only [frm, List.foldl, Act.put, List.setIfInBounds_toArray, List.set_cons_succ, List.set_cons_zero, hs, hp, cond_true, cond_false] | simp only [frm, List.foldl, Act.put, List.setIfInBounds_toArray, List.set_cons_succ, List.set_cons_zero, hs, cond_true, cond_false]); have HW := Lib.hid hW; clear hW; refine wpList_eql4 rfl rfl rfl rfl ?_; go_wp2; refine ⟨g, by (first | simp [frm, Act.put, upd, hs, hp] | simp [frm, Act.put, upd, hs]), HW.out.keep (by decide)⟩
          · intro s g wg hW hall
            have hs := fun i (hi : i < 6) => hall i (by simpa using hi)
            have HW := Lib.hid hW
            simp only [frm, List.foldl, Act.put, List.setIfInBounds_toArray, List.set_cons_succ, List.set_cons_zero, hs 0 (by omega), hs 1 (by omega), hs 2 (by omega), hs 3 (by omega), hs 4 (by omega), hs 5 (by omega), cond_true]
            clear hW hs hall
            have A4 := Lib.hid (A3.out.below HW.out.1 A3.out.lt)
            have HB4 := Lib.hid (HB3.out.trans (HW.out.1.below.mono HB3.out.size))
            rw [eqB_same]
            cases e4 : same4 (patN n x m) d
            · have HS2 := Lib.hid (show cntP n x d (m + 1) = cm by rw [HS.out, e4]; rfl)
              clear e4
              go_wp2
              go_roundw
              case rel => exact ⟨m + 1, by omega, by go_num, by rw [HS2.out], A4.out, HB4.out⟩
              case measure => simp [RowKit.intOf]; omega
            · have HS2 := Lib.hid (show cntP n x d (m + 1) = cm + 1 by rw [HS.out, e4]; rfl)
              clear e4
              go_wp2
              go_roundw
              case rel => exact ⟨m + 1, by omega, by go_num, by rw [HS2.out]; go_num, A4.out, HB4.out⟩
              case measure => simp [RowKit.intOf]; omega
        · obtain rfl : m = sixN n := by omega
          have d0 : decide (sixN n < sixN n) = false := by simp
          go_wp2_with fail
          go_at_call 53
          refine (l2All_any n n8 _).mono ?_
          rintro e w' ⟨rfl, rfl⟩
          go_wp2
          go_ret2
          exact ⟨by first | rfl | (rw [hcm]; done) | (rw [hcm]; rfl), HB3.out⟩
set_option maxRecDepth 100000 in
set_option maxHeartbeats 2000000 in
theorem iWaysOfPattern_any (o : Option Addr) (n c : Nat) (x : Nat → Nat → Int) (hn : n ≤ 1048576) (d : Nat → Int) (w : World) (h : PoolAt w o n x) : Calls Try.prog 22 #[poolV o n c, .agg (row 4 (I d))] w fun e w' => e = .returned (.tuple #[.int .i64 (waysV n x d), .bool (waysB n x d)]) ∧ Below w.heap.size w w' := by
  have H := Lib.hid h; clear h
  cases g1 : poolB n x
  · have HG := Lib.hid (show waysB n x d = false by unfold waysB; rw [g1]; rfl)
    rw [ways_no HG.out, HG.out]
    go_enter Try.func22, Try.ntmps22
    go_wp2_with fail
    go_at_call 42
    refine (isPool_any o n c x hn _ (H.out.alloc _)).mono ?_
    rintro e w1 ⟨rfl, hb1⟩
    have HB1 := Lib.hid hb1; clear hb1
    have HB1 := Lib.hid (((Below.refl w.heap.size w).alloc (by omega) _).trans (HB1.out.mono (by simp)))
    rw [g1]
    go_wp2
    go_ret2
    exact ⟨rfl, HB1.out⟩
  · obtain ⟨n1, n4⟩ := pool_le g1
    have n8 : n ≤ 8 := by omega
    have s3 := sixN_small n4
    cases g2 : valB d n
    · have HG := Lib.hid (show waysB n x d = false by unfold waysB; rw [g1, g2]; rfl)
      rw [ways_no HG.out, HG.out]
      go_enter Try.func22, Try.ntmps22
      go_wp2_with fail
      go_at_call 42
      refine (isPool_any o n c x hn _ (H.out.alloc _)).mono ?_
      rintro e w1 ⟨rfl, hb1⟩
      have HB1 := Lib.hid hb1; clear hb1
      have A1 := Lib.hid (show Blk w1 w.heap.size 4 29 (I d) from (Blk.new _ _ _ _).below HB1.out (by simp))
      have HB1 := Lib.hid (((Below.refl w.heap.size w).alloc (by omega) _).trans (HB1.out.mono (by simp)))
      rw [g1]
      go_wp2_with (first | (refine wpList_load_blk rfl 29 _ rfl (A1.out) rfl Try.underlying29 sz4 ?_) | fail)
      go_at_call 55
      refine (isPattern_any d n n4 _).mono ?_
      rintro e w2 ⟨rfl, hb⟩
      have HB2 := Lib.hid (HB1.out.trans (hb.mono HB1.out.size)); clear hb
      rw [g2]
      go_wp2
      go_ret2
      exact ⟨rfl, HB2.out⟩
    · have HG := Lib.hid (show waysB n x d = true by unfold waysB; rw [g1, g2]; rfl)
      rw [ways_yes HG.out, HG.out]
      have HD := Lib.hid (val_wf n4 g2)
      have HK := Lib.hid (key4 d HD.out)
      have G1 := Lib.hid g1
      go_enter Try.func22, Try.ntmps22
      go_wp2_with fail
      go_at_call 42
      refine (isPool_any o n c x hn _ (H.out.alloc _)).mono ?_
      rintro e w1 ⟨rfl, hb1⟩
      have HB1 := Lib.hid hb1; clear hb1
      have A1 := Lib.hid (show Blk w1 w.heap.size 4 29 (I d) from (Blk.new _ _ _ _).below HB1.out (by simp))
      have HB1 := Lib.hid (((Below.refl w.heap.size w).alloc (by omega) _).trans (HB1.out.mono (by simp)))
      rw [g1]
      go_wp2_with (first | (refine wpList_load_blk rfl 29 _ rfl (A1.out) rfl Try.underlying29 sz4 ?_) | fail)
      go_at_call 55
      refine (isPattern_any d n n4 _).mono ?_
      rintro e w2 ⟨rfl, hb⟩
      have A2 := Lib.hid (A1.out.below hb A1.out.lt)
      have HB2 := Lib.hid (HB1.out.trans (hb.mono HB1.out.size)); clear hb
      rw [g2]
      clear g1 g2 A1 HB1
      go_wp2
      refine wp_region_steps (by kernel_rfl) (by kernel_rfl) (fun g : Nat => [(0, 16, poolV o n c), (1, 17, .map (some g)), (2, 18, .agg (row 4 (I d))), (3, 19, .int .i64 (cntP n x d (sixN n) : Nat)), (4, 4, .int .i64 (cntP n x d (sixN n) : Nat)), (5, 5, .bool true)]) (WG _ 1 (MapIn n x)) 0 (WG.init 0) ?_ ?_
      · refine (And.intro (fun s g wv hW hs hp => ?_) (And.intro (fun s g wv hW hs hp => ?_) (And.intro (fun s g wv hW hs hp => ?_) (And.intro (fun s g wv hW hs hp => ?_) (And.intro (fun s g wv hW hs hp => ?_) (And.intro (fun s g wv hW hs hp => ?_) True.intro))))))
        · (try simp [waits, Region.binds, hs] at hp); (first | simp only [frm, List.foldl, Act.put, List.setIfInBounds_toArray, List.set_cons_succ, List.set_cons_zero, hs, hp, cond_true, cond_false] | simp only [frm, List.foldl, Act.put, List.setIfInBounds_toArray, List.set_cons_succ, List.set_cons_zero, hs, cond_true, cond_false]); have HW := Lib.hid hW; clear hW; go_wp2; refine ⟨g, by (first | simp [frm, Act.put, upd, hs, hp] | simp [frm, Act.put, upd, hs]), HW.out.keep (by decide)⟩
        · (try simp [waits, Region.binds, hs] at hp); (first | simp only [frm, List.foldl, Act.put, List.setIfInBounds_toArray, List.set_cons_succ, List.set_cons_zero, hs, hp, cond_true, cond_false] | simp only [frm, List.foldl, Act.put, List.setIfInBounds_toArray, List.set_cons_succ, List.set_cons_zero, hs, cond_true, cond_false]); have HW := Lib.hid hW; clear hW; go_wp2_with fail; go_at_call 56; refine (patterns_any o n c x G1.out _ ((H.out.below HB2.out).below HW.out.1)).mono ?_; rintro e' w3 ⟨rfl, hp2, hb2⟩; have HP2 := Lib.hid hp2; have HB3 := Lib.hid hb2; clear hp2 hb2; go_wp2; refine ⟨wv.heap.size, by (first | simp [frm, Act.put, upd, hs, hp] | simp [frm, Act.put, upd, hs]), HW.out.made HB3.out HP2.out⟩
        · (try simp [waits, Region.binds, hs] at hp); (first | simp only [frm, List.foldl, Act.put, List.setIfInBounds_toArray, List.set_cons_succ, List.set_cons_zero, hs, hp, cond_true, cond_false] | simp only [frm, List.foldl, Act.put, List.setIfInBounds_toArray, List.set_cons_succ, List.set_cons_zero, hs, cond_true, cond_false]); have HW := Lib.hid hW; clear hW; refine wpList_load_blk rfl 29 _ rfl (A2.out.below HW.out.1 A2.out.lt) rfl Try.underlying29 sz4 ?_; go_wp2; refine ⟨g, by (first | simp [frm, Act.put, upd, hs, hp] | simp [frm, Act.put, upd, hs]), HW.out.keep (by decide)⟩
        · (try simp [waits, Region.binds, hs] at hp); (first | simp only [frm, List.foldl, Act.put, List.setIfInBounds_toArray, List.set_cons_succ, List.set_cons_zero, hs, hp, cond_true, cond_false] | simp only [frm, List.foldl, Act.put, List.setIfInBounds_toArray, List.set_cons_succ, List.set_cons_zero, hs, cond_true, cond_false]); have HW := Lib.hid hW; clear hW; obtain ⟨D, ho, hD⟩ := HW.out.2 (by simp [hp]); have HO := Lib.hid ho; have HAT := Lib.hid (hD.2.1 d HD.out); clear ho hD; refine wpList_lookup_own_int _ rfl _ _ 67 rfl 29 3 .i64 keyed4 Try.underlying67 Try.underlying3 (Try.zeroValue3 _) g (sixN n) D rfl HO.out _ _ rfl HK.out ?_; intro c' hat' _; (obtain rfl : c' = (cntP n x d (sixN n) : Nat) := by (rw [HAT.out] at hat'; injection hat' with hat'; injection hat' with _ hat'; exact hat'.symm)); clear hat'; go_wp2; refine ⟨g, by (first | simp [frm, Act.put, upd, hs, hp] | simp [frm, Act.put, upd, hs]), HW.out.keep (by decide)⟩
        · (try simp [waits, Region.binds, hs] at hp); (first | simp only [frm, List.foldl, Act.put, List.setIfInBounds_toArray, List.set_cons_succ, List.set_cons_zero, hs, hp, cond_true, cond_false] | simp only [frm, List.foldl, Act.put, List.setIfInBounds_toArray, List.set_cons_succ, List.set_cons_zero, hs, cond_true, cond_false]); have HW := Lib.hid hW; clear hW; go_wp2; refine ⟨g, by (first | simp [frm, Act.put, upd, hs, hp] | simp [frm, Act.put, upd, hs]), HW.out.keep (by decide)⟩
        · (try simp [waits, Region.binds, hs] at hp); (first | simp only [frm, List.foldl, Act.put, List.setIfInBounds_toArray, List.set_cons_succ, List.set_cons_zero, hs, hp, cond_true, cond_false] | simp only [frm, List.foldl, Act.put, List.setIfInBounds_toArray, List.set_cons_succ, List.set_cons_zero, hs, cond_true, cond_false]); have HW := Lib.hid hW; clear hW; go_wp2; refine ⟨g, by (first | simp [frm, Act.put, upd, hs, hp] | simp [frm, Act.put, upd, hs]), HW.out.keep (by decide)⟩
      · intro s g wg hW hall
        have hs := fun i (hi : i < 6) => hall i (by simpa using hi)
        have HW := Lib.hid hW
        simp only [frm, List.foldl, Act.put, List.setIfInBounds_toArray, List.set_cons_succ, List.set_cons_zero, hs 0 (by omega), hs 1 (by omega), hs 2 (by omega), hs 3 (by omega), hs 4 (by omega), hs 5 (by omega), cond_true]
        clear hW hs hall
        have HB4 := Lib.hid (HB2.out.trans (HW.out.1.below.mono HB2.out.size))
        go_wp2
        go_ret2
        exact ⟨rfl, HB4.out⟩
end Go.Proofs.Ytbfhfadfjgfmaaa

/- Patterns compared; keys of a map of patterns read back; sums over such a map. Written by gen_patx.py. -/
set_option linter.unusedVariables false
set_option linter.unusedSimpArgs false
set_option linter.unusedSectionVars false
namespace Go.Proofs.Ytbfhfadfjgfmaaa
open Go.RowKit Go.Maps
theorem l4Less_any (a b : Nat → Int) (w : World) : Calls Try.prog 57 #[.agg (row 4 (I a)), .agg (row 4 (I b))] w fun e w' => e = .returned (.bool (decide (lexI a b 4 0 < 0))) ∧ Below w.heap.size w w' := by
  go_enter Try.func57, Try.ntmps57
  go_wp2
  go_loopw [5] (fun i wr => ∃ k : Nat, k ≤ 4 ∧ i = .int .i64 k ∧ Blk wr w.heap.size 4 29 (I a) ∧ Blk wr (w.heap.size + 1) 4 29 (I b) ∧ Below w.heap.size w wr ∧ Hid (lexI a b 4 0 = lexI a b (4 - k) k)) (fun i _ => 4 - (RowKit.intOf i).toNat)
  case atStart => exact ⟨0, by omega, rfl, (by (repeat (first | (with_reducible exact Blk.new _ _ _ _) | ((with_reducible refine Blk.newS ?_); (focus (first | rfl | (simp; done)))) | ((with_reducible refine Blk.setRowNew ?_); (focus (first | rfl | (simp; done)))) | ((with_reducible refine Blk.setRowOther ?_ _ _ ?_); rotate_left; (focus (first | omega | (simp; done) | (simp; omega)))) | ((with_reducible refine Blk.other ?_ _ _ ?_); rotate_left; (focus (first | omega | (simp; done) | (simp; omega)))) | (with_reducible refine Blk.alloc ?_ _) | (with_reducible refine Blk.drewN ?_ _)))), (by (repeat (first | (with_reducible exact Blk.new _ _ _ _) | ((with_reducible refine Blk.newS ?_); (focus (first | rfl | (simp; done)))) | ((with_reducible refine Blk.setRowNew ?_); (focus (first | rfl | (simp; done)))) | ((with_reducible refine Blk.setRowOther ?_ _ _ ?_); rotate_left; (focus (first | omega | (simp; done) | (simp; omega)))) | ((with_reducible refine Blk.other ?_ _ _ ?_); rotate_left; (focus (first | omega | (simp; done) | (simp; omega)))) | (with_reducible refine Blk.alloc ?_ _) | (with_reducible refine Blk.drewN ?_ _)))), (by (repeat (first | (with_reducible exact Below.refl _ _) | ((with_reducible refine below_setRow ?_ ?_ _); rotate_left; (focus (first | omega | (simp; done) | (simp; omega)))) | ((with_reducible refine Below.setCell ?_ ?_ _); rotate_left; (focus (first | omega | (simp; done) | (simp; omega)))) | ((with_reducible refine Below.alloc ?_ ?_ _); rotate_left; (focus (first | omega | (simp; done) | (simp; omega)))) | (with_reducible refine below_drewN ?_ _)))), rfl⟩
  case round =>
    obtain ⟨k, hk, rfl, hA, hB, hb, HO⟩ := hrel
    by_cases hlt : k < 4
    · have c0 : wr.cell? ⟨w.heap.size, k, none⟩ = some (.int .i64 (a k)) := hA.cell hlt
      have c1 : wr.cell? ⟨w.heap.size + 1, k, none⟩ = some (.int .i64 (b k)) := hB.cell hlt
      have HA := Lib.hid hA; have HB := Lib.hid hB; have Hb := Lib.hid hb
      clear hA hB hb
      by_cases g : a k = b k
      · have G := Lib.hid (lexI_step a b hlt HO.out g)
        have d1 : (a k != b k) = false := by simp [g]
        clear g
        go_wp2
        go_quiet (fail)
        go_wp2
        go_roundw
        case rel => exact ⟨k + 1, by omega, by go_num, HA.out.drewN _, HB.out.drewN _, below_drewN Hb.out _, G⟩
        case measure => simp [RowKit.intOf]; omega
      · have G := Lib.hid (show decide (lexI a b 4 0 < 0) = decide (a k < b k) by rw [lexI_stop a b hlt HO.out g]; simp [cmpI_neg])
        have d1 : (a k != b k) = true := by simp [g]
        clear g
        go_wp2
        go_quiet (fail)
        go_wp2
        go_quiet (fail)
        go_wp2
        go_ret
        exact ⟨by (rw [G.out]) <;> rfl, by first | exact below_drewN Hb.out _ | exact below_drewN (below_drewN Hb.out _) _⟩
    · obtain rfl : k = 4 := by omega
      have G := Lib.hid (show decide (lexI a b 4 0 < 0) = false by rw [HO.out]; rfl)
      go_wp2
      go_ret
      exact ⟨by (rw [G.out]) <;> rfl, hb⟩
theorem comparePatterns_any (a b : Nat → Int) (w : World) : Calls Try.prog 60 #[.agg (row 4 (I a)), .agg (row 4 (I b))] w fun e w' => e = .returned (.int .i64 (lexI b a 4 0)) ∧ Below w.heap.size w w' := by
  go_enter Try.func60, Try.ntmps60
  go_wp2
  go_quiet ((go_at_call 76; exact quiet_eq (sliceCompare_any _ _ 4 _ _ b a (by omega) _ ((Blk.newS (by simp)).drewN _) (((Blk.new _ _ 29 _).alloc _).drewN _))))
  go_wp2
  go_ret
  exact ⟨rfl, below_drewN (by (repeat (first | (with_reducible exact Below.refl _ _) | ((with_reducible refine below_setRow ?_ ?_ _); rotate_left; (focus (first | omega | (simp; done) | (simp; omega)))) | ((with_reducible refine Below.setCell ?_ ?_ _); rotate_left; (focus (first | omega | (simp; done) | (simp; omega)))) | ((with_reducible refine Below.alloc ?_ ?_ _); rotate_left; (focus (first | omega | (simp; done) | (simp; omega)))) | (with_reducible refine below_drewN ?_ _)))) _⟩
theorem keyLits_int {P : Program} {t : TypeId} (hu : P.underlying t = some (.int .i64)) {d : Nat} {c : Value} {l : List Lit} (h : P.keyLits d t [c] = some l) : ∃ v, c = .int .i64 v ∧ (Lit.int .i64 v).wf = true := by
  cases d with
  | zero => simp [Program.keyLits] at h
  | succ d =>
    unfold Program.keyLits at h
    rw [hu] at h
    cases c <;> simp at h
    exact ⟨_, by rw [h.1.1], h.1.2⟩
theorem key4_inv_gen {P : Program} {T t : TypeId} (hu4 : P.underlying T = some (.array 4 t)) (hu : P.underlying t = some (.int .i64)) (c4 : P.cellsOf T = 4) (c1 : P.cellsOf t = 1) (hv : ∀ f, Wf4 f → keyOf P T (.agg (row 4 (I f))) = some (kl4 f)) {v : Value} {kl : Lit} (h : keyOf P T v = some kl) : ∃ f : Nat → Int, v = .agg (row 4 (I f)) ∧ Wf4 f ∧ kl = kl4 f := by
  have h0 := h
  unfold keyOf at h
  rw [hu4] at h
  simp only at h
  split at h
  · rename_i hc
    simp only [Bool.and_eq_true] at hc
    have hf := hc.2
    obtain ⟨g, rfl⟩ : ∃ g, v = .agg (row 4 g) := by
      unfold Value.formed at hf
      cases v <;> simp [hu4] at hf
      rename_i cs
      obtain ⟨g, e⟩ := row_of_array cs 4 (by rw [hf, c4])
      exact ⟨g, by rw [e]⟩
    simp only [Option.map_eq_some_iff] at h
    obtain ⟨ls, hl, -⟩ := h
    have e : (Value.agg (row 4 g)).cells.toList = [g 0, g 1, g 2, g 3] := rfl
    rw [e] at hl
    unfold Program.keyLits at hl
    rw [hu4] at hl
    simp only [c4, c1, List.length_cons, List.length_nil, Nat.reduceAdd, if_true, Option.map_eq_some_iff] at hl
    obtain ⟨ll, hl, -⟩ := hl
    simp [List.range, List.range.loop] at hl
    have each : ∀ p, p < 4 → ∃ u, g p = .int .i64 u ∧ (Lit.int .i64 u).wf = true := by
      rcases q0 : P.keyLits P.types.size t [g 0] with _ | l0
      · rw [q0] at hl; simp at hl
      rcases q1 : P.keyLits P.types.size t [g 1] with _ | l1
      · rw [q0, q1] at hl; simp at hl
      rcases q2 : P.keyLits P.types.size t [g 2] with _ | l2
      · rw [q0, q1, q2] at hl; simp at hl
      rcases q3 : P.keyLits P.types.size t [g 3] with _ | l3
      · rw [q0, q1, q2, q3] at hl; simp at hl
      intro p hp
      match p, hp with
      | 0, _ => exact keyLits_int hu q0
      | 1, _ => exact keyLits_int hu q1
      | 2, _ => exact keyLits_int hu q2
      | 3, _ => exact keyLits_int hu q3
    obtain ⟨f, hf⟩ : ∃ f : Nat → Int, f = fun p => match g p with | .int _ u => u | _ => 0 := ⟨_, rfl⟩
    have hg : ∀ p, p < 4 → g p = I f p ∧ (Lit.int .i64 (f p)).wf = true := fun p hp => by
      obtain ⟨u, e1, e2⟩ := each p hp
      have e3 : f p = u := by rw [hf]; simp only [e1]
      exact ⟨by simp only [I, e3, e1], by rw [e3]; exact e2⟩
    have er : row 4 g = row 4 (I f) := row_ext (fun p hp => (hg p hp).1)
    have hw : Wf4 f := fun p hp => (hg p hp).2
    rw [er, hv f hw] at h0
    exact ⟨f, by rw [er], hw, (Option.some.inj h0).symm⟩
  · cases h
/-- What reads as a key of such a map is an array of four ints. -/
theorem key4_inv {v : Value} {kl : Lit} (h : keyOf Try.prog 29 v = some kl) : ∃ f : Nat → Int, v = .agg (row 4 (I f)) ∧ Wf4 f ∧ kl = kl4 f :=
  key4_inv_gen Try.underlying29 Try.underlying3 (by kernel_rfl) (by kernel_rfl) key4 h
/-- In how many of the first M rolls a pattern comes up that p tells. -/
def cntW (n : Nat) (x : Nat → Nat → Int) (p : (Nat → Int) → Bool) : Nat → Nat
  | 0 => 0
  | M + 1 => cntW n x p M + (if p (patN n x M) then 1 else 0)
theorem cntW_le (n : Nat) (x : Nat → Nat → Int) (p : (Nat → Int) → Bool) : ∀ M, cntW n x p M ≤ M
  | 0 => Nat.le_refl _
  | M + 1 => by have := cntW_le n x p M; simp only [cntW]; split <;> omega
theorem cntW_none {n : Nat} {x : Nat → Nat → Int} {p : (Nat → Int) → Bool} : ∀ M, (∀ m, m < M → p (patN n x m) = false) → cntW n x p M = 0
  | 0, _ => rfl
  | M + 1, h => by
    simp only [cntW]
    rw [cntW_none M (fun m hm => h m (by omega)), h M (by omega)]
    rfl
theorem cntW_congr {n : Nat} {x : Nat → Nat → Int} {p q : (Nat → Int) → Bool} : ∀ M, (∀ m, m < M → p (patN n x m) = q (patN n x m)) → cntW n x p M = cntW n x q M
  | 0, _ => rfl
  | M + 1, h => by
    simp only [cntW]
    rw [cntW_congr M (fun m hm => h m (by omega)), h M (by omega)]
theorem cntW_step {n : Nat} {x : Nat → Nat → Int} {p q : (Nat → Int) → Bool} {f : Nat → Int} {b : Bool} : ∀ M, (∀ m, m < M → (if q (patN n x m) then 1 else 0) = (if p (patN n x m) then 1 else 0) + (if b && same4 (patN n x m) f then 1 else (0 : Nat))) → cntW n x q M = cntW n x p M + (if b then cntP n x f M else 0)
  | 0, _ => by simp [cntW, cntP]
  | M + 1, h => by
    have ih := cntW_step (f := f) (b := b) (p := p) (q := q) M (fun m hm => h m (by omega))
    have hM := h M (by omega)
    simp only [cntW, cntP]
    rw [ih, hM]
    cases b <;> simp <;> omega
def betB (d f : Nat → Int) : Bool := decide (lexI d f 4 0 < 0)
theorem lexI_same (d : Nat → Int) {f g : Nat → Int} (h : same4 f g = true) : lexI d f 4 0 = lexI d g 4 0 := by
  have h := (same4_iff f g).1 h
  simp only [lexI, h 0 (by omega), h 1 (by omega), h 2 (by omega), h 3 (by omega)]
theorem betB_same (d : Nat → Int) {f g : Nat → Int} (h : same4 f g = true) : betB d f = betB d g := by unfold betB; rw [lexI_same d h]
theorem cntP_pos (n : Nat) (x : Nat → Nat → Int) : ∀ M m, m < M → 0 < cntP n x (patN n x m) M
  | 0, _, h => by omega
  | M + 1, m, h => by
    simp only [cntP]
    by_cases e : m = M
    · subst e
      rw [(same4_iff _ _).2 (fun _ _ => rfl)]
      simp
    · have := cntP_pos n x M m (by omega)
      omega
/-- What has been summed when left tells which keys are still to come. -/
def sumL (n : Nat) (x : Nat → Nat → Int) (d : Nat → Int) (M : Nat) (left : Lit → Bool) : Nat := cntW n x (fun f => !left (kl4 f) && betB d f) M
theorem sumL_start {n : Nat} {x : Nat → Nat → Int} (hn : n ≤ 4) (d : Nat → Int) {M : Nat} {D : DataW Unit} (h : PatOf n x M D) : sumL n x d M (has D) = 0 :=
  cntW_none M (fun m hm => by rw [h.2.2 _ (patN_wf n x hn m), decide_eq_true (cntP_pos n x M m hm)]; rfl)
theorem sumL_end {n : Nat} {x : Nat → Nat → Int} (d : Nat → Int) (M : Nat) {left : Lit → Bool} (h : ∀ kl, left kl = false) : sumL n x d M left = cntW n x (betB d) M :=
  cntW_congr M (fun m _ => by simp only [h]; rfl)
theorem sumL_step {n : Nat} {x : Nat → Nat → Int} (hn : n ≤ 4) (d : Nat → Int) (M : Nat) {left : Lit → Bool} {f : Nat → Int} (hf : Wf4 f) (hl : left (kl4 f) = true) : sumL n x d M (fun z => left z && !z.sameKey (kl4 f)) = sumL n x d M left + (if betB d f then cntP n x f M else 0) :=
  cntW_step M (fun m _ => by
    cases e : same4 (patN n x m) f
    · have hne : kl4 (patN n x m) ≠ kl4 f := fun q => by
        have := (same4_iff _ _).2 (key4_inj (patN_wf n x hn m) hf q)
        rw [e] at this; cases this
      have hk := sameKey_ne hne
      simp only [hk]
      cases betB d f <;> simp
    · have hk : (kl4 f).sameKey (kl4 f) = true := by simp [kl4, Lit.sameKey]
      have h1 := kl4_same e
      have h2 := betB_same d e
      simp only [h1, h2, hl, hk]
      cases betB d f <;> rfl)
end Go.Proofs.Ytbfhfadfjgfmaaa
