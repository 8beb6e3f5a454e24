/- The pattern of a roll: what counting by a map, sorted, comes to is what the reference's count of runs, sorted, comes to. In plain Lean. -/
import Derived.Test.YtbfhfadfjgfmaaaPat
set_option linter.unusedVariables false
set_option linter.unusedSimpArgs false
set_option linter.unusedSectionVars false
namespace Go.Proofs.Ytbfhfadfjgfmaaa
open Go.RowKit
def TopD (f : Nat → Int) (t : Nat) : Prop := ∀ q p, q < p → p < 4 → t ≤ p → f q ≤ f p
theorem swap_doneD {f : Nat → Int} {t k : Nat} (h : TopD f t) (hk : k < 3) : TopD (swapF f k) t := by
  by_cases hh : f (k + 1) < f k
  · have hkt : k + 1 < t := by
      by_cases c : k + 1 < t
      · exact c
      · have := h k (k + 1) (by omega) (by omega) (by omega); omega
    intro q p hq hp ht
    rw [swap_far f (p := p) (by omega) (by omega)]
    rcases swap_from f k q with e | ⟨e1, e⟩ | ⟨e1, e⟩
    · rw [e]; exact h q p hq hp ht
    · rw [e]; exact h (k + 1) p (by omega) hp ht
    · rw [e]; exact h k p (by omega) hp ht
  · have e : swapF f k = f := by unfold swapF; rw [if_neg hh]
    rw [e]; exact h
theorem pass_doneD {f : Nat → Int} {t : Nat} (h : TopD f t) : ∀ k, k ≤ 3 → TopD (passF f k) t
  | 0, _ => h
  | k + 1, hk => swap_doneD (pass_doneD h k (by omega)) (by omega)
theorem pass_keepD {f : Nat → Int} {t : Nat} (h : TopD f t) (h1 : 1 ≤ t) : ∀ k, t - 1 ≤ k → k ≤ 3 → passF f k = passF f (t - 1)
  | 0, h2, _ => by rw [show t - 1 = 0 by omega]
  | k + 1, h2, h5 => by
    by_cases e : t - 1 = k + 1
    · rw [e]
    · rw [← pass_keepD h h1 k (by omega) (by omega)]
      have hd := pass_doneD h k (by omega)
      have := hd k (k + 1) (by omega) (by omega) (by omega)
      simp only [passF]
      unfold swapF
      rw [if_neg (by omega)]
theorem bub_doneD (d : Nat → Int) : ∀ i, i ≤ 3 → TopD (bubK 3 d i) (4 - i)
  | 0, _ => fun q p _ hp ht => by omega
  | i + 1, hi => by
    have ih := bub_doneD d i (by omega)
    intro q p hq hp ht
    simp only [bubK]
    by_cases e : 4 - i ≤ p
    · exact pass_doneD ih 3 (by omega) q p hq hp e
    · have hp2 : p = 4 - i - 1 := by omega
      rw [pass_keepD ih (by omega) 3 (by omega) (by omega)]
      have := pass_max (bubK 3 d i) (4 - i - 1) q (by omega)
      rw [hp2]
      exact this
theorem pat_desc (f : Nat → Int) (n : Nat) : Desc (patF f n) 4 := by
  have h : TopD (bubK 3 (ngF (cP f n)) 4) 1 := pass_doneD (bub_doneD _ 3 (by omega)) 3 (by omega)
  intro q p hq hp
  have := h q p hq hp (by omega)
  unfold patF
  simp only [ngF] at *
  omega
/-- How often x came up among the first k. -/
def occ (f : Nat → Int) : Nat → Int → Nat
  | 0, _ => 0
  | k + 1, x => occ f k x + (if f k = x then 1 else 0)
theorem occ_hc (f : Nat → Int) (x : Int) : ∀ k, hc f x k = hc f (x + 1) k + occ f k x
  | 0 => rfl
  | k + 1 => by
    have := occ_hc f x k
    simp only [hc, occ]
    split <;> split <;> split <;> omega
theorem occ_pl (f : Nat → Int) (n : Nat) (x : Int) : occ (plF f n) n x = occ f n x := by
  have a := occ_hc (plF f n) x n
  have b := occ_hc f x n
  rw [hc_plF, hc_plF] at a
  omega
theorem occ_none (f : Nat → Int) (x : Int) : ∀ k, (∀ j, j < k → f j ≠ x) → occ f k x = 0
  | 0, _ => rfl
  | k + 1, h => by
    simp only [occ]
    rw [occ_none f x k (fun j hj => h j (by omega)), if_neg (h k (by omega))]
theorem occ_le (f : Nat → Int) (x : Int) : ∀ k, occ f k x ≤ k
  | 0 => Nat.le_refl _
  | k + 1 => by have := occ_le f x k; simp only [occ]; split <;> omega
theorem occ_pos (f : Nat → Int) (x : Int) : ∀ k, 0 < occ f k x ↔ ∃ j, j < k ∧ f j = x
  | 0 => by simp [occ]
  | k + 1 => by
    have ih := occ_pos f x k
    simp only [occ]
    constructor
    · intro h
      by_cases e : f k = x
      · exact ⟨k, by omega, e⟩
      · rw [if_neg e] at h
        obtain ⟨j, h1, h2⟩ := ih.1 (by omega)
        exact ⟨j, by omega, h2⟩
    · rintro ⟨j, h1, h2⟩
      by_cases e : j = k
      · subst e; rw [if_pos h2]; omega
      · have := ih.2 ⟨j, by omega, h2⟩
        omega
/-- Of how many faces at least z came up: told by the order in which they came. -/
def gP (f : Nat → Int) (z : Nat) : Nat → Nat
  | 0 => 0
  | k + 1 => gP f z k + (if occ f k (f k) + 1 = z then 1 else 0)
theorem gP_le (f : Nat → Int) (z : Nat) : ∀ k, gP f z k ≤ k
  | 0 => Nat.le_refl _
  | k + 1 => by have := gP_le f z k; simp only [gP]; split <;> omega
theorem countP_off {L : List Int} {p q : Int → Bool} (h : ∀ x ∈ L, p x = q x) : L.countP p = L.countP q := List.countP_congr (fun x hx => by rw [h x hx])
theorem countP_step {a : Int} {p q : Int → Bool} : ∀ {L : List Int}, L.Nodup → a ∈ L → (∀ x ∈ L, x ≠ a → p x = q x) → L.countP p + (if q a then 1 else 0) = L.countP q + (if p a then 1 else 0)
  | [], _, h, _ => by simp at h
  | y :: L, hnd, ha, h => by
    obtain ⟨h1, h2⟩ := List.nodup_cons.1 hnd
    rw [List.countP_cons, List.countP_cons]
    by_cases e : y = a
    · subst e
      rw [countP_off (fun x hx => h x (by simp [hx]) (fun e => h1 (e ▸ hx)))]
      omega
    · have h3 : a ∈ L := by simpa [Ne.symm e] using ha
      have := countP_step h2 h3 (fun x hx hne => h x (by simp [hx]) hne)
      rw [h y (by simp) e]
      omega
theorem gP_count (f : Nat → Int) (z : Nat) (hz : 1 ≤ z) {L : List Int} (hnd : L.Nodup) : ∀ k, (∀ j, j < k → f j ∈ L) → L.countP (fun x => decide (z ≤ occ f k x)) = gP f z k
  | 0, _ => by
    simp only [gP, occ]
    rw [List.countP_eq_zero]
    intro x _
    simp; omega
  | k + 1, h => by
    have ih := gP_count f z hz hnd k (fun j hj => h j (by omega))
    have hs := countP_step (a := f k) (p := fun x => decide (z ≤ occ f (k + 1) x)) (q := fun x => decide (z ≤ occ f k x)) hnd (h k (by omega)) (fun x _ hne => by
      have e : occ f (k + 1) x = occ f k x := by simp only [occ]; rw [if_neg (fun e => hne e.symm)]; rfl
      simp only [e])
    rw [ih] at hs
    simp only [gP]
    simp only [occ, decide_eq_true_eq, if_true] at hs ⊢
    split at hs <;> split at hs <;> split <;> omega
theorem cover_list (f : Nat → Int) : ∀ k, ∃ L : List Int, L.Nodup ∧ ∀ j, j < k → f j ∈ L
  | 0 => ⟨[], List.nodup_nil, fun j h => by omega⟩
  | k + 1 => by
    obtain ⟨L, h1, h2⟩ := cover_list f k
    by_cases e : f k ∈ L
    · exact ⟨L, h1, fun j hj => by by_cases c : j = k; (subst c; exact e); exact h2 j (by omega)⟩
    · exact ⟨f k :: L, List.nodup_cons.2 ⟨e, h1⟩, fun j hj => by by_cases c : j = k; (subst c; simp); exact List.mem_cons_of_mem _ (h2 j (by omega))⟩
theorem gP_pl (f : Nat → Int) (z : Nat) (hz : 1 ≤ z) (n : Nat) : gP (plF f n) z n = gP f z n := by
  obtain ⟨L, h1, h2⟩ := cover_list f n
  rw [← gP_count f z hz h1 n h2, ← gP_count (plF f n) z hz h1 n (fun j hj => by
    obtain ⟨i, h3, h4⟩ := plF_mem f n j hj
    rw [h4]; exact h2 i h3)]
  exact countP_off (fun x _ => by rw [occ_pl])
theorem hc_upd (F : Nat → Int) (z : Int) (i : Nat) (v : Int) : ∀ n, hc (upd F i v) z n + (if i < n then ind z (F i) else 0) = hc F z n + (if i < n then ind z v else 0)
  | 0 => by simp [hc]
  | n + 1 => by
    have ih := hc_upd F z i v n
    rw [hc_succ, hc_succ]
    by_cases e : i = n
    · subst e
      rw [if_neg (by omega), if_neg (by omega)] at ih
      rw [if_pos (by omega), if_pos (by omega)]
      simp only [upd, if_true]
      omega
    · have : upd F i v n = F n := by simp only [upd]; rw [if_neg (fun q => e q.symm)]
      rw [this]
      by_cases c : i < n
      · rw [if_pos c, if_pos c] at ih; rw [if_pos (by omega), if_pos (by omega)]; omega
      · rw [if_neg c, if_neg c] at ih; rw [if_neg (by omega), if_neg (by omega)]; omega
/-- The run to which number k belongs holds as many as came up of it. -/
theorem run_occ (f : Nat → Int) {n : Nat} (hd : Desc f n) : ∀ k, k < n → cP f k (runN f (k + 1) - 1) = (occ f k (f k) : Nat)
  | 0, _ => by simp [cP, occ]
  | k + 1, h => by
    have ih := run_occ f hd k (by omega)
    have hp := runN_pos f (k + 1) (by omega)
    by_cases e : f (k + 1) = f k
    · have hr : runN f (k + 1 + 1) = runN f (k + 1) := by
        show runN f (k + 1) + (if k + 1 = 0 ∨ f (k + 1) ≠ f (k + 1 - 1) then 1 else 0) = _
        rw [if_neg (by simp [e])]
        rfl
      rw [hr]
      simp only [cP, upd, if_true, occ]
      rw [e, if_pos rfl, ih]
      omega
    · have hr : runN f (k + 1 + 1) = runN f (k + 1) + 1 := by
        show runN f (k + 1) + (if k + 1 = 0 ∨ f (k + 1) ≠ f (k + 1 - 1) then 1 else 0) = _
        rw [if_pos (.inr (by simpa using e))]
      rw [hr, Nat.add_sub_cancel]
      have hc := cP_pos f (k + 1) (runN f (k + 1))
      rw [occ_none f _ (k + 1) (fun j hj q => by
        have a1 := hd k (k + 1) (by omega) h
        by_cases c : j = k
        · subst c; exact e q.symm
        · have a2 := hd j k (by omega) (by omega)
          omega)]
      omega
theorem cP_gP (f : Nat → Int) {n : Nat} (hd : Desc f n) (hn : n ≤ 4) (z : Nat) : ∀ k, k ≤ n → 1 ≤ z → hc (cP f k) (z : Int) 4 = gP f z k
  | 0, _, hz => by
    have := hc_none (F := cP f 0) (z := (z : Int)) (p := 0) 4 (fun q _ _ => by simp only [cP]; omega)
    simp only [gP]
    omega
  | k + 1, h, hz => by
    have ih := cP_gP f hd hn z k (by omega) hz
    have ho := run_occ f hd k (by omega)
    have hl := runN_le f (k + 1)
    have hp := runN_pos f (k + 1) (by omega)
    have hu := hc_upd (cP f k) (z : Int) (runN f (k + 1) - 1) (cP f k (runN f (k + 1) - 1) + 1) 4
    rw [if_pos (by omega), if_pos (by omega), ho, ih] at hu
    simp only [cP, gP]
    rw [ho]
    unfold ind at hu
    split at hu <;> split at hu <;> split <;> omega
theorem pat_gP (f : Nat → Int) {n : Nat} (hd : Desc f n) (hn : n ≤ 4) (z : Nat) (hz : 1 ≤ z) : hc (patF f n) (z : Int) 4 = gP f z n := by
  unfold patF
  rw [hc_bub4, ng_ng]
  exact cP_gP f hd hn z n (Nat.le_refl _) hz
/-- The first m of s, then zeros. -/
def extZ (m : Nat) (s : Nat → Int) : Nat → Int := fun p => if p < m then s p else 0
theorem hc_ext (m : Nat) (s : Nat → Int) (z : Int) (hz : 1 ≤ z) : ∀ n, hc (extZ m s) z n = hc s z (min m n)
  | 0 => by simp [hc]
  | n + 1 => by
    have ih := hc_ext m s z hz n
    rw [hc_succ, ih]
    by_cases c : n < m
    · rw [show min m (n + 1) = n + 1 by omega, show min m n = n by omega, hc_succ]
      simp only [extZ, if_pos c]
    · rw [show min m (n + 1) = m by omega, show min m n = m by omega]
      simp only [extZ, if_neg c, ind]
      rw [if_neg (by omega)]
      rfl
theorem pat_sorted (f : Nat → Int) {n : Nat} (hn : n ≤ 4) (m : Nat) (s : Nat → Int) (hm : m ≤ 4) (h0 : ∀ j, j < m → 0 ≤ s j) (hs : ∀ z : Nat, 1 ≤ z → hc s (z : Int) m = gP f z n) (p : Nat) (hp : p < 4) :
    extZ m (plF s m) p = patF (plF f n) n p := by
  have hpl : ∀ j, j < m → 0 ≤ plF s m j := fun j hj => by
    obtain ⟨i, h1, h2⟩ := plF_mem s m j hj
    rw [h2]; exact h0 i h1
  have hge : ∀ j, 0 ≤ extZ m (plF s m) j := fun j => by
    simp only [extZ]; split
    · rename_i h; exact hpl j h
    · omega
  refine desc_eq (fun q p hq hp => ?_) (pat_desc _ n) (fun z => ?_) p hp
  · simp only [extZ]
    by_cases c : p < m
    · rw [if_pos c, if_pos (by omega)]; exact plF_desc s m q p hq c
    · rw [if_neg c]; exact hge q
  · by_cases c : z ≤ 0
    · rw [hc_all 4 (fun q _ => Int.le_trans c (hge q)), hc_all 4 (fun q _ => Int.le_trans c (patF_bd (plF f n) n q).1)]
    · obtain ⟨y, rfl⟩ : ∃ y : Nat, z = (y : Int) := ⟨z.toNat, by omega⟩
      rw [hc_ext _ _ _ (by omega), show min m 4 = m by omega, hc_plF, hs y (by omega), pat_gP _ (plF_desc f n) hn y (by omega), gP_pl f y (by omega)]
theorem hc_list (z : Int) : ∀ (l : List Int), hc (fun i => l.getD i 0) z l.length = l.countP (fun x => decide (z ≤ x)) := by
  have key : ∀ (l : List Int) k, k ≤ l.length → hc (fun i => l.getD i 0) z k = (l.take k).countP (fun x => decide (z ≤ x)) := by
    intro l k
    induction k with
    | zero => intro _; simp [hc]
    | succ k ih =>
      intro h
      rw [hc_succ, ih (by omega), List.take_succ_eq_append_getElem (by omega), List.countP_append]
      simp [ind, List.getD_eq_getElem?_getD, List.getElem?_eq_getElem (show k < l.length by omega), List.countP_cons]
  intro l
  rw [key l l.length (Nat.le_refl _), List.take_length]
theorem vals_hc (f : Nat → Int) (n : Nat) (ps : List (Int × Int)) (hnd : (ps.map (·.1)).Nodup) (hk : ∀ x, x ∈ ps.map (·.1) ↔ ∃ j, j < n ∧ f j = x) (hv : ∀ p ∈ ps, p.2 = (occ f n p.1 : Nat)) (z : Nat) (hz : 1 ≤ z) :
    hc (fun i => (ps.map (·.2)).getD i 0) (z : Int) (ps.map (·.2)).length = gP f z n := by
  rw [hc_list, ← gP_count f z hz hnd n (fun j hj => (hk _).2 ⟨j, hj, rfl⟩), List.countP_map, List.countP_map]
  exact List.countP_congr (fun p hp => by
    simp only [Function.comp, decide_eq_true_eq]
    rw [hv p hp]
    omega)
end Go.Proofs.Ytbfhfadfjgfmaaa
