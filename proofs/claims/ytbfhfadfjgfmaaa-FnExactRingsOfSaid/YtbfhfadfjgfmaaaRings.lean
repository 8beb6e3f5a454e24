/- Texts of mine, joined by merge.py. -/
import Derived.Test.YtbfhfadfjgfmaaaLex
import Derived.Test.YtbfhfadfjgfmaaaGrid2
import Derived.Test.YtbfhfadfjgfmaaaPlaces2
import Derived.Test.YtbfhfadfjgfmaaaBeatT
import Derived.Test.YtbfhfadfjgfmaaaGrow
import Derived.Lib.SliceRun
import Derived.Test.YtbfhfadfjgfmaaaInv
/- Rings of a row: the reference's lists by length, the program's list depth first. In plain Lean (definitions and first facts; under way). -/
set_option linter.unusedVariables false
set_option linter.unusedSimpArgs false
set_option linter.unusedSectionVars false
namespace Go.Proofs.Ytbfhfadfjgfmaaa
/-- The places that may follow in a path: greater than its first, not in it, beaten by its last. -/
def nextR (n : Nat) (B : Nat → Nat → Bool) (p : List Nat) : List Nat := (List.range n).filter fun k => decide (p.headD 0 < k) && !p.contains k && B (p.getLastD 0) k
/-- The reference's rings of length L that begin so. -/
def ringsR (n : Nat) (B : Nat → Nat → Bool) (L : Nat) : Nat → List Nat → List (List Nat)
  | 0, _ => []
  | d + 1, p => if p.length = L then (if B (p.getLastD 0) (p.headD 0) then [p] else []) else (nextR n B p).flatMap fun k => ringsR n B L d (p ++ [k])
/-- The program's rings that begin so, in the order in which it comes to them. -/
def ringsI (n : Nat) (B : Nat → Nat → Bool) : Nat → List Nat → List (List Nat)
  | 0, _ => []
  | d + 1, p => (if B (p.getLastD 0) (p.headD 0) && decide (3 ≤ p.length) then [p] else []) ++ (nextR n B p).flatMap fun k => ringsI n B d (p ++ [k])
def allR (n : Nat) (B : Nat → Nat → Bool) : List (List Nat) := (List.range (n + 1)).flatMap fun L => if 3 ≤ L then (List.range n).flatMap fun i => ringsR n B L (n + 1) [i] else []
def allI (n : Nat) (B : Nat → Nat → Bool) : List (List Nat) := (List.range n).flatMap fun i => ringsI n B (n + 1) [i]
theorem nextR_mem {n : Nat} {B : Nat → Nat → Bool} {p : List Nat} {k : Nat} (h : k ∈ nextR n B p) : k < n ∧ p.headD 0 < k ∧ k ∉ p ∧ B (p.getLastD 0) k = true := by
  simp only [nextR, List.mem_filter, List.mem_range, Bool.and_eq_true, decide_eq_true_eq, Bool.not_eq_true', List.contains_eq_mem] at h
  obtain ⟨h1, ⟨h2, h3⟩, h4⟩ := h
  exact ⟨h1, h2, by simpa using h3, h4⟩

end Go.Proofs.Ytbfhfadfjgfmaaa

/- Rings of a row: the program's list in order is the reference's list; how many there are. In plain Lean. -/
set_option linter.unusedVariables false
set_option linter.unusedSimpArgs false
set_option linter.unusedSectionVars false
namespace Go.Proofs.Ytbfhfadfjgfmaaa
/-- A path: some places below n, all different. -/
structure Path (n : Nat) (p : List Nat) : Prop where
  ne : p ≠ []
  nd : p.Nodup
  lt : ∀ x ∈ p, x < n
theorem Path.one {n i : Nat} (h : i < n) : Path n [i] := ⟨by simp, by simp, by simpa using h⟩
theorem Path.next {n : Nat} {B : Nat → Nat → Bool} {p : List Nat} {k : Nat} (h : Path n p) (hk : k ∈ nextR n B p) : Path n (p ++ [k]) := by
  obtain ⟨h1, _, h3, _⟩ := nextR_mem hk
  refine ⟨by simp, ?_, ?_⟩
  · rw [List.nodup_append]
    exact ⟨h.nd, by simp, fun a ha b hb => by simp at hb; subst hb; exact fun e => h3 (e ▸ ha)⟩
  · intro x hx
    rcases List.mem_append.1 hx with hx | hx
    · exact h.lt x hx
    · simp at hx; subst hx; exact h1
theorem pigeon : ∀ (n : Nat) (l : List Nat), l.Nodup → (∀ x ∈ l, x < n) → l.length ≤ n
  | 0, l, _, h => by
    cases l with
    | nil => simp
    | cons a t => exact absurd (h a (by simp)) (by omega)
  | n + 1, l, hd, h => by
    have h1 := pigeon n (l.erase n) (hd.erase n) (fun x hx => by
      rw [hd.mem_erase_iff] at hx
      have := h x hx.2
      omega)
    have h2 : l.length ≤ (l.erase n).length + 1 := by
      rw [List.length_erase]
      split <;> omega
    omega
theorem Path.len {n : Nat} {p : List Nat} (h : Path n p) : p.length ≤ n := pigeon n p h.nd h.lt
theorem flat_append_perm {α β : Type} (f g : α → List β) : ∀ l : List α, (l.flatMap fun x => f x ++ g x).Perm (l.flatMap f ++ l.flatMap g)
  | [] => by simp
  | a :: l => by
    simp only [List.flatMap_cons]
    have h := flat_append_perm f g l
    calc (f a ++ g a ++ l.flatMap fun x => f x ++ g x)
      |>.Perm (f a ++ g a ++ (l.flatMap f ++ l.flatMap g)) := h.append_left _
      _ |>.Perm (f a ++ l.flatMap f ++ (g a ++ l.flatMap g)) := by
        rw [List.append_assoc, List.append_assoc]
        refine List.Perm.append_left _ ?_
        rw [← List.append_assoc, ← List.append_assoc]
        exact List.Perm.append_right _ List.perm_append_comm
theorem flat_comm_perm {α β γ : Type} (f : α → β → List γ) (m : List β) : ∀ l : List α, (l.flatMap fun a => m.flatMap (f a)).Perm (m.flatMap fun b => l.flatMap fun a => f a b)
  | [] => by simp
  | a :: l => by
    simp only [List.flatMap_cons]
    exact ((flat_comm_perm f m l).append_left _).trans (flat_append_perm (f a) (fun b => l.flatMap fun a => f a b) m).symm
theorem flat_perm {α β : Type} {f g : α → List β} : ∀ l : List α, (∀ a ∈ l, (f a).Perm (g a)) → (l.flatMap f).Perm (l.flatMap g)
  | [], _ => by simp
  | a :: l, h => by
    simp only [List.flatMap_cons]
    exact (h a (by simp)).append (flat_perm l fun b hb => h b (by simp [hb]))
theorem flat_nil {α β : Type} {f : α → List β} : ∀ l : List α, (∀ a ∈ l, f a = []) → l.flatMap f = []
  | [], _ => rfl
  | a :: l, h => by
    simp only [List.flatMap_cons]
    rw [h a (by simp), flat_nil l fun b hb => h b (by simp [hb])]; rfl
theorem flat_congr {α β : Type} {f g : α → List β} : ∀ l : List α, (∀ a ∈ l, f a = g a) → l.flatMap f = l.flatMap g
  | [], _ => rfl
  | a :: l, h => by
    simp only [List.flatMap_cons]
    rw [h a (by simp), flat_congr l fun b hb => h b (by simp [hb])]
theorem flat_at {β : Type} (X : List β) (l : Nat) : ∀ N : Nat, l < N → ((List.range N).flatMap fun L => if l = L then X else []) = X
  | 0, h => by omega
  | N + 1, h => by
    rw [List.range_succ, List.flatMap_append]
    by_cases e : l = N
    · subst e
      rw [flat_nil _ fun a ha => if_neg (by have := List.mem_range.1 ha; omega)]
      simp
    · rw [flat_at X l N (by omega)]
      simp [e]
theorem ringsR_short {n : Nat} {B : Nat → Nat → Bool} {L : Nat} : ∀ (d : Nat) (p : List Nat), L < p.length → ringsR n B L d p = []
  | 0, _, _ => rfl
  | d + 1, p, h => by
    simp only [ringsR]
    rw [if_neg (by omega), flat_nil _ fun k _ => ringsR_short d (p ++ [k]) (by simp; omega)]
theorem ringsR_step {n : Nat} {B : Nat → Nat → Bool} {L d : Nat} {p : List Nat} : ringsR n B L (d + 1) p = (if p.length = L then (if B (p.getLastD 0) (p.headD 0) then [p] else []) else []) ++ (nextR n B p).flatMap fun k => ringsR n B L d (p ++ [k]) := by
  by_cases e : p.length = L
  · rw [if_pos e]
    simp only [ringsR]
    rw [if_pos e, flat_nil (nextR n B p) fun k _ => ringsR_short d (p ++ [k]) (by simp; omega)]
    simp
  · rw [if_neg e]
    simp only [ringsR]
    rw [if_neg e, List.nil_append]
def byL (n : Nat) (B : Nat → Nat → Bool) (d : Nat) (p : List Nat) : List (List Nat) := (List.range (n + 1)).flatMap fun L => if 3 ≤ L then ringsR n B L d p else []
theorem rings_perm {n : Nat} {B : Nat → Nat → Bool} : ∀ (d : Nat) (p : List Nat), Path n p → (ringsI n B d p).Perm (byL n B d p)
  | 0, p, _ => by
    unfold byL
    rw [flat_nil _ fun L _ => by simp [ringsR]]
    simp [ringsI]
  | d + 1, p, hp => by
    have e1 : byL n B (d + 1) p = (List.range (n + 1)).flatMap fun L => (if p.length = L then (if B (p.getLastD 0) (p.headD 0) && decide (3 ≤ p.length) then [p] else []) else []) ++ (nextR n B p).flatMap fun k => if 3 ≤ L then ringsR n B L d (p ++ [k]) else [] := by
      refine flat_congr _ fun L _ => ?_
      by_cases h3 : 3 ≤ L
      · rw [if_pos h3, ringsR_step]
        congr 1
        · by_cases e : p.length = L
          · rw [if_pos e, if_pos e, e]
            simp [h3]
          · rw [if_neg e, if_neg e]
        · exact flat_congr _ fun k _ => (if_pos h3).symm
      · rw [if_neg h3, flat_nil (nextR n B p) fun k _ => if_neg h3]
        by_cases e : p.length = L
        · rw [if_pos e, e]
          simp [h3]
        · simp [e]
    rw [e1]
    refine List.Perm.trans ?_ (flat_append_perm _ _ _).symm
    rw [flat_at _ _ _ (by have := hp.len; omega)]
    simp only [ringsI]
    refine List.Perm.append_left _ ?_
    refine List.Perm.trans ?_ (flat_comm_perm (fun k L => if 3 ≤ L then ringsR n B L d (p ++ [k]) else []) (List.range (n + 1)) (nextR n B p))
    exact flat_perm _ fun k hk => rings_perm d (p ++ [k]) (hp.next hk)
theorem all_perm (n : Nat) (B : Nat → Nat → Bool) : (allI n B).Perm (allR n B) := by
  have e : allR n B = (List.range (n + 1)).flatMap fun L => (List.range n).flatMap fun i => if 3 ≤ L then ringsR n B L (n + 1) [i] else [] := by
    refine flat_congr _ fun L _ => ?_
    by_cases h3 : 3 ≤ L
    · rw [if_pos h3]
      exact flat_congr _ fun i _ => (if_pos h3).symm
    · rw [if_neg h3, flat_nil _ fun i _ => if_neg h3]
  rw [e]
  refine List.Perm.trans ?_ (flat_comm_perm (fun i L => if 3 ≤ L then ringsR n B L (n + 1) [i] else []) (List.range (n + 1)) (List.range n))
  exact flat_perm _ fun i hi => rings_perm (n + 1) [i] (Path.one (List.mem_range.1 hi))
/-! ### the order -/
/-- slices.Compare. -/
def lexL : List Nat → List Nat → Int
  | [], [] => 0
  | [], _ :: _ => -1
  | _ :: _, [] => 1
  | a :: x, b :: y => if a < b then -1 else if b < a then 1 else lexL x y
/-- The order of the rings: the shorter first, then as slices.Compare says. -/
def cmpR (x y : List Nat) : Int := if x.length < y.length then -1 else if y.length < x.length then 1 else lexL x y
theorem lexL_lt {a b : Nat} {x y : List Nat} : lexL (a :: x) (b :: y) < 0 ↔ a < b ∨ (a = b ∧ lexL x y < 0) := by
  simp only [lexL]
  split
  · simp; omega
  · split
    · simp; omega
    · have : a = b := by omega
      simp [this]
theorem lexL_irr : ∀ x : List Nat, ¬ lexL x x < 0
  | [] => by simp [lexL]
  | a :: x => by rw [lexL_lt]; have := lexL_irr x; omega
theorem lexL_trans : ∀ x y z : List Nat, lexL x y < 0 → lexL y z < 0 → lexL x z < 0
  | [], [], _, h, _ => by simp [lexL] at h
  | [], _ :: _, [], _, h => by simp [lexL] at h
  | [], _ :: _, _ :: _, _, _ => by simp [lexL]
  | _ :: _, [], _, h, _ => by simp [lexL] at h
  | _ :: _, _ :: _, [], _, h => by simp [lexL] at h
  | a :: x, b :: y, c :: z, h1, h2 => by
    rw [lexL_lt] at *
    have := lexL_trans x y z
    omega
theorem lexL_ntrans : ∀ x y z : List Nat, ¬ lexL x y < 0 → ¬ lexL y z < 0 → ¬ lexL x z < 0
  | [], [], _, _, h => h
  | [], _ :: _, _, h, _ => by simp [lexL] at h
  | _ :: _, _, [], _, _ => by simp [lexL]
  | _ :: _, [], _ :: _, _, h => by simp [lexL] at h
  | a :: x, b :: y, c :: z, h1, h2 => by
    rw [lexL_lt] at *
    have := lexL_ntrans x y z
    omega
theorem lexL_total : ∀ x y : List Nat, ¬ lexL x y < 0 → ¬ lexL y x < 0 → x = y
  | [], [], _, _ => rfl
  | [], _ :: _, h, _ => by simp [lexL] at h
  | _ :: _, [], _, h => by simp [lexL] at h
  | a :: x, b :: y, h1, h2 => by
    rw [lexL_lt] at *
    have e : a = b := by omega
    rw [e, lexL_total x y (by omega) (by omega)]
theorem cmpR_lt {x y : List Nat} : cmpR x y < 0 ↔ x.length < y.length ∨ (x.length = y.length ∧ lexL x y < 0) := by
  unfold cmpR
  split
  · simp; omega
  · split
    · simp; omega
    · have : x.length = y.length := by omega
      simp [this]
theorem cmpR_irr (x : List Nat) : ¬ cmpR x x < 0 := by rw [cmpR_lt]; have := lexL_irr x; omega
theorem cmpR_trans (x y z : List Nat) (h1 : cmpR x y < 0) (h2 : cmpR y z < 0) : cmpR x z < 0 := by
  rw [cmpR_lt] at *
  have := lexL_trans x y z
  omega
theorem cmpR_ntrans (x y z : List Nat) (h1 : ¬ cmpR x y < 0) (h2 : ¬ cmpR y z < 0) : ¬ cmpR x z < 0 := by
  rw [cmpR_lt] at *
  have := lexL_ntrans x y z
  omega
theorem cmpR_total (x y : List Nat) (h1 : ¬ cmpR x y < 0) (h2 : ¬ cmpR y x < 0) : x = y := by
  rw [cmpR_lt] at *
  exact lexL_total x y (by omega) (by omega)
theorem lexL_pre (p x y : List Nat) : lexL (p ++ x) (p ++ y) = lexL x y := by
  induction p with
  | nil => rfl
  | cons a p ih => simp [lexL, ih]
theorem ringsR_len {n : Nat} {B : Nat → Nat → Bool} {L : Nat} : ∀ (d : Nat) (p x : List Nat), x ∈ ringsR n B L d p → x.length = L ∧ ∃ t, x = p ++ t
  | 0, _, _, h => by simp [ringsR] at h
  | d + 1, p, x, h => by
    simp only [ringsR] at h
    split at h
    · split at h
      · simp at h; subst h; exact ⟨by assumption, [], by simp⟩
      · simp at h
    · obtain ⟨k, _, hk⟩ := List.mem_flatMap.1 h
      obtain ⟨h1, t, rfl⟩ := ringsR_len d _ x hk
      exact ⟨h1, k :: t, by simp⟩
theorem nextR_sorted (n : Nat) (B : Nat → Nat → Bool) (p : List Nat) : (nextR n B p).Pairwise (· < ·) := List.Pairwise.filter _ List.pairwise_lt_range
theorem ringsR_sorted {n : Nat} {B : Nat → Nat → Bool} {L : Nat} : ∀ (d : Nat) (p : List Nat), (ringsR n B L d p).Pairwise fun x y => cmpR x y < 0
  | 0, _ => by simp [ringsR]
  | d + 1, p => by
    simp only [ringsR]
    split
    · split <;> simp
    · rw [List.pairwise_flatMap]
      refine ⟨fun k _ => ringsR_sorted d _, (nextR_sorted n B p).imp fun {a b} hab x hx y hy => ?_⟩
      obtain ⟨h1, t, rfl⟩ := ringsR_len d _ x hx
      obtain ⟨h2, u, rfl⟩ := ringsR_len d _ y hy
      rw [cmpR_lt]
      refine .inr ⟨by omega, ?_⟩
      rw [List.append_assoc, List.append_assoc, lexL_pre]
      simp [lexL, hab]
theorem allR_sorted (n : Nat) (B : Nat → Nat → Bool) : (allR n B).Pairwise fun x y => cmpR x y < 0 := by
  unfold allR
  rw [List.pairwise_flatMap]
  refine ⟨fun L _ => ?_, List.pairwise_lt_range.imp fun {a b} hab x hx y hy => ?_⟩
  · split
    · rw [List.pairwise_flatMap]
      refine ⟨fun k _ => ringsR_sorted _ _, List.pairwise_lt_range.imp fun {a b} hab x hx y hy => ?_⟩
      obtain ⟨h1, t, rfl⟩ := ringsR_len _ _ x hx
      obtain ⟨h2, u, rfl⟩ := ringsR_len _ _ y hy
      rw [cmpR_lt]
      refine .inr ⟨by omega, ?_⟩
      simp [lexL, hab]
    · simp
  · split at hx
    · split at hy
      · obtain ⟨_, _, hx⟩ := List.mem_flatMap.1 hx
        obtain ⟨_, _, hy⟩ := List.mem_flatMap.1 hy
        have h1 := (ringsR_len _ _ x hx).1
        have h2 := (ringsR_len _ _ y hy).1
        rw [cmpR_lt]
        omega
      · simp at hy
    · simp at hx
theorem allR_nodup (n : Nat) (B : Nat → Nat → Bool) : (allR n B).Nodup := (allR_sorted n B).imp fun {a b} h e => by subst e; exact cmpR_irr _ h
theorem allI_nodup (n : Nat) (B : Nat → Nat → Bool) : (allI n B).Nodup := (all_perm n B).nodup_iff.2 (allR_nodup n B)
/-- What is in order and holds the program's rings is the reference's list. -/
theorem sorted_allR {n : Nat} {B : Nat → Nat → Bool} {l : List (List Nat)} (hp : l.Perm (allI n B)) (hs : l.Pairwise fun x y => ¬ cmpR y x < 0) : l = allR n B :=
  List.Perm.eq_of_pairwise (le := fun x y => ¬ cmpR y x < 0) (fun x y _ _ h1 h2 => cmpR_total x y h2 h1) hs ((allR_sorted n B).imp fun {a b} h h2 => cmpR_irr _ (cmpR_trans _ _ _ h h2)) (hp.trans (all_perm n B))
/-! ### how many -/
theorem flat_mono {α β : Type} {f g : α → List β} {p q : α → Bool} : ∀ l : List α, (∀ a ∈ l, p a = true → q a = true) → (∀ a ∈ l, (f a).length ≤ (g a).length) → ((l.filter p).flatMap f).length ≤ ((l.filter q).flatMap g).length
  | [], _, _ => by simp
  | a :: l, h1, h2 => by
    have ih := flat_mono l (fun b hb => h1 b (by simp [hb])) fun b hb => h2 b (by simp [hb])
    have ha := h1 a (by simp)
    have hb := h2 a (by simp)
    cases e : p a
    · rw [List.filter_cons_of_neg (by simp [e])]
      cases e2 : q a
      · rw [List.filter_cons_of_neg (by simp [e2])]; exact ih
      · rw [List.filter_cons_of_pos e2, List.flatMap_cons, List.length_append]; omega
    · rw [List.filter_cons_of_pos e, List.filter_cons_of_pos (ha e), List.flatMap_cons, List.flatMap_cons, List.length_append, List.length_append]; omega
theorem ringsI_mono {n : Nat} {B : Nat → Nat → Bool} : ∀ (d : Nat) (p : List Nat), (ringsI n B d p).length ≤ (ringsI n (fun _ _ => true) d p).length
  | 0, _ => by simp [ringsI]
  | d + 1, p => by
    simp only [ringsI, List.length_append]
    refine Nat.add_le_add ?_ ?_
    · simp only [Bool.true_and]
      split
      · rename_i h
        simp only [Bool.and_eq_true] at h
        rw [if_pos h.2]
        exact Nat.le_refl _
      · simp
    · unfold nextR
      exact flat_mono _ (fun a _ h => by simp only [Bool.and_eq_true] at h ⊢; exact ⟨h.1, True.intro⟩) fun a _ => ringsI_mono d _
theorem allI_mono (n : Nat) (B : Nat → Nat → Bool) : (allI n B).length ≤ (allI n (fun _ _ => true)).length := by
  unfold allI
  have := flat_mono (f := fun i => ringsI n B (n + 1) [i]) (g := fun i => ringsI n (fun _ _ => true) (n + 1) [i]) (p := fun _ => true) (q := fun _ => true) (List.range n) (fun _ _ h => h) fun a _ => ringsI_mono _ _
  rw [List.filter_eq_self.2 (by simp)] at this
  exact this
theorem allI_le {n : Nat} (B : Nat → Nat → Bool) (h : n ≤ 6) : (allI n B).length ≤ 1000 := by
  refine Nat.le_trans (allI_mono n B) ?_
  have : ∀ n, n < 7 → (allI n (fun _ _ => true)).length ≤ 1000 := by decide +kernel
  exact this n (by omega)
theorem allR_le {n : Nat} (B : Nat → Nat → Bool) (h : n ≤ 6) : (allR n B).length ≤ 1000 := by
  rw [← (all_perm n B).length_eq]; exact allI_le B h
theorem allR_len {n : Nat} {B : Nat → Nat → Bool} {x : List Nat} (h : x ∈ allR n B) : x.length ≤ n := by
  obtain ⟨L, hL, hx⟩ := List.mem_flatMap.1 h
  split at hx
  · obtain ⟨_, _, hx⟩ := List.mem_flatMap.1 hx
    rw [(ringsR_len _ _ x hx).1]
    have := List.mem_range.1 hL
    omega
  · simp at hx
end Go.Proofs.Ytbfhfadfjgfmaaa

/- Slices of slices of ints as lists of lists; appends to them; what a call leaves that appends to a captured one. -/
set_option linter.unusedVariables false
set_option linter.unusedSimpArgs false
set_option linter.unusedSectionVars false
namespace Go.Proofs.Ytbfhfadfjgfmaaa
open Go.RowKit
def lF (p : List Nat) (j : Nat) : Int := ((p.getD j 0 : Nat) : Int)
def gLen (Ls : List (List Nat)) (i : Nat) : Nat := (Ls.getD i []).length
def gF (Ls : List (List Nat)) (i j : Nat) : Int := lF (Ls.getD i []) j
/-- A slice that owns the rows of a list. -/
def GridL (w : World) (B : Nat) (o : Option Addr) (m c : Nat) (ad : Nat → Option Addr × Nat) (Ls : List (List Nat)) : Prop := Ls.length = m ∧ Grid w B o m c ad (gLen Ls) (gF Ls)
theorem gLen_left {Ls Ms : List (List Nat)} {i : Nat} (h : i < Ls.length) : gLen (Ls ++ Ms) i = gLen Ls i := by
  simp only [gLen, List.getD_eq_getElem?_getD, List.getElem?_append_left h]
theorem gF_left {Ls Ms : List (List Nat)} {i j : Nat} (h : i < Ls.length) : gF (Ls ++ Ms) i j = gF Ls i j := by
  simp only [gF, List.getD_eq_getElem?_getD, List.getElem?_append_left h]
theorem gLen_right {Ls Ms : List (List Nat)} {i : Nat} : gLen (Ls ++ Ms) (Ls.length + i) = gLen Ms i := by
  simp only [gLen, List.getD_eq_getElem?_getD]
  rw [List.getElem?_append_right (by omega), show Ls.length + i - Ls.length = i by omega]
theorem gF_right {Ls Ms : List (List Nat)} {i j : Nat} : gF (Ls ++ Ms) (Ls.length + i) j = gF Ms i j := by
  simp only [gF, List.getD_eq_getElem?_getD]
  rw [List.getElem?_append_right (by omega), show Ls.length + i - Ls.length = i by omega]
theorem Grid.congr2 {w : World} {B m c : Nat} {o : Option Addr} {ad ad' : Nat → Option Addr × Nat} {len len' : Nat → Nat} {f f' : Nat → Nat → Int} (h : Grid w B o m c ad len f) (e0 : ∀ i, i < m → ad i = ad' i) (e1 : ∀ i, i < m → len i = len' i) (e2 : ∀ i, i < m → ∀ j, j < len i → f i j = f' i j) : Grid w B o m c ad' len' f' := by
  refine ⟨?_, fun i hi => ?_, fun i j hij hj => ?_⟩
  · rw [← gridL_congr (fun i hi => ⟨e0 i hi, e1 i hi⟩)]; exact h.outer
  · rw [← e1 i hi, ← e0 i hi]; exact (h.rows i hi).congr (e2 i hi)
  · have := h.sep i j hij hj
    simp only [rowSl] at this ⊢
    rw [← e1 i (by omega), ← e1 j hj, ← e0 i (by omega), ← e0 j hj]
    exact this
namespace GridL
variable {w w' : World} {B m c : Nat} {o : Option Addr} {ad : Nat → Option Addr × Nat} {Ls : List (List Nat)}
theorem below (h : GridL w B o m c ad Ls) (hb : Below w.heap.size w w') : GridL w' B o m c ad Ls := ⟨h.1, h.2.below hb⟩
theorem base {B' : Nat} (h : GridL w B o m c ad Ls) (hB : B' ≤ B) : GridL w B' o m c ad Ls := ⟨h.1, h.2.base hB⟩
theorem nil (w : World) (B : Nat) (ad : Nat → Option Addr × Nat) : GridL w B Option.none 0 0 ad [] := ⟨rfl, Grid.nil _ _ _ _ _⟩
theorem empty (w : World) (B : Nat) (ad : Nat → Option Addr × Nat) (hB : B ≤ w.heap.size) : GridL (w.alloc (.cells #[] 60)) B (some ⟨w.heap.size, 0, none⟩) 0 0 ad [] := ⟨rfl, Grid.empty _ _ _ _ _ hB⟩
end GridL
/-- append(out, places): the list's one row more; what is not nil stays so. -/
theorem wpList_append_gl {ops : Array Oper} {rest : List Oper} {o : Oper} {a : Act} {w : World} {Q : Exit → Act → World → Prop} (hgd : o.guard = none) {s x : Operand} {S : TypeId} (hS : Try.prog.underlying S = some (.slice 60))
    (ho : o.op = .call { callee := .builtin .append, args := #[s, x], argTypes := #[S, S] }) {B m c g n cp : Nat} {A p : Option Addr} {ad : Nat → Option Addr × Nat} {Ls : List (List Nat)} {q : List Nat} (hs : a.eval s = .slice A m c) (hx : a.eval x = .slice (some ⟨g, 0, none⟩) 1 1)
    (hz : w.cell? ⟨g, 0, none⟩ = some (.slice p n cp)) (hgrid : GridL w B A m c ad Ls) (hn : q.length = n) (hrow : Ints w B p n cp (lF q)) (hsep : ∀ i, i < m → (rowSl ad (gLen Ls) i).ownBlock = none ∨ (rowSl ad (gLen Ls) i).ownBlock ≠ Value.ownBlock (.slice p n cp)) (hm : m ≤ 1000000) (hB : B ≤ w.heap.size)
    (h : ∀ A' c' w' ad', GridL w' B A' (m + 1) c' ad' (Ls ++ [q]) → w.grownBy w' (Value.ownBlock (.slice A m c)) → A' ≠ none → wpList Try.prog ops Q rest (a.put o.dst (.slice A' (m + 1) c')) w') : wpList Try.prog ops Q (o :: rest) a w := by
  obtain ⟨e0, hg⟩ := hgrid
  subst e0
  have l1 : gLen (Ls ++ [q]) Ls.length = n := by have := gLen_right (Ls := Ls) (Ms := [q]) (i := 0); simp [gLen] at this ⊢; omega
  refine wpList_append_grid (len := gLen (Ls ++ [q])) (f := gF (Ls ++ [q])) hgd hS ho hs hx hz l1 (hg.congr2 (fun _ _ => rfl) (fun i hi => (gLen_left hi).symm) (fun i hi j _ => (gF_left hi).symm)) (hrow.congr fun j hj => ?_) (fun i hi => ?_) hm hB fun A' c' w' ad' h1 h2 => ?_
  · have := gF_right (Ls := Ls) (Ms := [q]) (i := 0) (j := j)
    simp only [Nat.add_zero] at this
    rw [this]; rfl
  · have := hsep i hi
    simp only [rowSl] at this ⊢
    rw [gLen_left hi]
    exact this
  · refine h A' c' w' ad' ⟨by simp, h1⟩ h2 fun e => ?_
    subst e
    have := h1.cell (k := 0) (by omega)
    obtain ⟨g, e, _⟩ := this
    cases e
/-- append(out, more...): both are the call's own. -/
theorem wpList_append_gls {ops : Array Oper} {rest : List Oper} {o : Oper} {a : Act} {w : World} {Q : Exit → Act → World → Prop} (hgd : o.guard = none) {s x : Operand} {S : TypeId} (hS : Try.prog.underlying S = some (.slice 60))
    (ho : o.op = .call { callee := .builtin .append, args := #[s, x], argTypes := #[S, S] }) {B B2 m c k c2 : Nat} {A A2 : Option Addr} {ad ad2 : Nat → Option Addr × Nat} {Ls Ms : List (List Nat)} (hs : a.eval s = .slice A m c) (hx : a.eval x = .slice A2 k c2)
    (hA : A ≠ none) (hA2 : A2 ≠ none) (hgrid : GridL w B A m c ad Ls) (hrows : GridL w B2 A2 k c2 ad2 Ms) (hsep : ∀ i, i < m → ∀ j, j < k → (rowSl ad (gLen Ls) i).ownBlock = none ∨ (rowSl ad (gLen Ls) i).ownBlock ≠ (rowSl ad2 (gLen Ms) j).ownBlock) (hBB : B ≤ B2) (hm : m + k ≤ 1000000) (hB : B ≤ w.heap.size)
    (h : ∀ A' c' w' ad', GridL w' B A' (m + k) c' ad' (Ls ++ Ms) → w.grownBy w' (Value.ownBlock (.slice A m c)) → A' ≠ none → wpList Try.prog ops Q rest (a.put o.dst (.slice A' (m + k) c')) w') : wpList Try.prog ops Q (o :: rest) a w := by
  obtain ⟨e0, hg⟩ := hgrid
  obtain ⟨e1, hr⟩ := hrows
  subst e0; subst e1
  obtain ⟨i, hi, h0, h1, h2⟩ := info_get infoG
  obtain ⟨a0, ha0⟩ : ∃ a0, A2 = some a0 := by cases A2 with | none => exact absurd rfl hA2 | some a0 => exact ⟨a0, rfl⟩
  subst ha0
  refine wpList_append_own w hgd s x S ho B 60 i (.slice none 0 0) 1 24 hS hi h0 h1 h2 rfl (by decide) _ Ls.length (gridL ad (gLen Ls) Ls.length) hs hg.outer a0 Ms.length c2 (gridL ad2 (gLen Ms) Ms.length) hx (by rw [gridL_len, Nat.mul_one]) ?_ ?_ ?_ ?_ hB ?_
  · intro j u hu
    have hj : j < Ms.length := by
      by_cases q : j < Ms.length
      · exact q
      · rw [List.getElem?_eq_none (by rw [gridL_len]; omega)] at hu; cases hu
    rw [gridL_get ad2 _ hj] at hu
    obtain ⟨g, e, _, _, hc⟩ := hr.cell hj
    have e := Option.some.inj e
    subst e
    rw [addr_add, Nat.zero_add, hc]
    exact hu
  · intro u hu
    simp only [gridL, List.mem_map] at hu
    obtain ⟨j, _, rfl⟩ := hu
    rfl
  · unfold maxLen; omega
  · omega
  · intro v' w' hw' hgr hnil
    obtain ⟨o', c', rfl⟩ := slice_of_own hw'
    have hpo : ∀ j, j < Ms.length → (rowSl ad2 (gLen Ms) j).ownBlock = none ∨ (rowSl ad2 (gLen Ms) j).ownBlock ≠ Value.ownBlock (.slice A Ls.length c) := fun j hj => by
      cases q : (rowSl ad2 (gLen Ms) j).ownBlock with
      | none => exact .inl rfl
      | some g =>
        refine .inr fun e => ?_
        obtain ⟨cs, h1⟩ := own_typed (hr.rows j hj) q
        obtain ⟨cs', h2⟩ := own_typed hg.outer e.symm
        rw [h1] at h2
        injection h2 with h2
        injection h2 with _ h2
        exact absurd h2 (by decide)
    have eL : ∀ j, j < Ls.length → gLen (Ls ++ Ms) j = gLen Ls j := fun j hj => gLen_left hj
    have eR : ∀ j, ¬ j < Ls.length → gLen (Ls ++ Ms) j = gLen Ms (j - Ls.length) := fun j hj => by
      have := gLen_right (Ls := Ls) (Ms := Ms) (i := j - Ls.length)
      rw [show Ls.length + (j - Ls.length) = j by omega] at this
      exact this
    refine h o' c' w' (fun j => if j < Ls.length then ad j else ad2 (j - Ls.length)) ⟨by simp, ⟨?_, fun j hj => ?_, fun j l hjl hl => ?_⟩⟩ hgr fun e => ?_
    · have e : gridL ad (gLen Ls) Ls.length ++ gridL ad2 (gLen Ms) Ms.length = gridL (fun j => if j < Ls.length then ad j else ad2 (j - Ls.length)) (gLen (Ls ++ Ms)) (Ls.length + Ms.length) := by
        apply List.ext_getElem?
        intro p
        by_cases q1 : p < Ls.length
        · rw [List.getElem?_append_left (by rw [gridL_len]; exact q1), gridL_get _ _ q1, gridL_get _ _ (by omega)]
          simp only [rowSl, if_pos q1, eL p q1]
        · rw [List.getElem?_append_right (by rw [gridL_len]; omega), gridL_len]
          by_cases q2 : p < Ls.length + Ms.length
          · rw [gridL_get _ _ (by omega), gridL_get _ _ q2]
            simp only [rowSl, if_neg q1, eR p q1]
          · rw [List.getElem?_eq_none (by rw [gridL_len]; omega), List.getElem?_eq_none (by rw [gridL_len]; omega)]
      rw [e] at hw'
      exact hw'
    · by_cases q : j < Ls.length
      · simp only [if_pos q, eL j q]
        exact Ints.congr ((hg.rows j q).grown hgr (hg.apart q)) fun i _ => (gF_left q).symm
      · simp only [if_neg q, eR j q]
        refine Ints.congr (((hr.rows (j - Ls.length) (by omega)).base hBB).grown hgr (hpo _ (by omega))) fun i _ => ?_
        have := gF_right (Ls := Ls) (Ms := Ms) (i := j - Ls.length) (j := i)
        rw [show Ls.length + (j - Ls.length) = j by omega] at this
        exact this.symm
    · simp only [rowSl]
      by_cases q : l < Ls.length
      · have q2 : j < Ls.length := by omega
        rw [if_pos q, if_pos q2, eL l q, eL j q2]
        exact hg.sep j l hjl q
      · rw [if_neg q, eR l q]
        by_cases q2 : j < Ls.length
        · rw [if_pos q2, eL j q2]
          exact hsep j q2 (l - Ls.length) (by omega)
        · rw [if_neg q2, eR j q2]
          exact hr.sep (j - Ls.length) (l - Ls.length) (by omega) (by omega)
    · subst e
      have : (Value.slice none (Ls.length + Ms.length) c' = Value.slice none 0 0) := by
        rcases hw'.2 with ⟨e, _⟩ | ⟨_, _, _, e, _⟩
        · exact e
        · cases e
      have := (hnil.1 this).1
      injection this with this
      exact hA this
/-- What a call leaves that appends to a slice of slices behind the box O: all but O's block, and the blocks of slices from B on. -/
structure Step (B O : Nat) (w w' : World) : Prop where
  os : w'.os = w.os
  tape : w'.tape = w.tape
  output : w'.output = w.output
  size : w.heap.size ≤ w'.heap.size
  block : ∀ k, k < w.heap.size → k ≠ O → (B ≤ k → ∀ cs fr, w.heap[k]? ≠ some (.cells cs 60 fr)) → w'.heap[k]? = w.heap[k]?
namespace Step
variable {B O : Nat} {w w1 w2 : World}
theorem refl (w : World) : Step B O w w := ⟨rfl, rfl, rfl, Nat.le_refl _, fun _ _ _ _ => rfl⟩
theorem trans (h1 : Step B O w w1) (h2 : Step B O w1 w2) : Step B O w w2 :=
  ⟨h2.os.trans h1.os, h2.tape.trans h1.tape, h2.output.trans h1.output, Nat.le_trans h1.size h2.size, fun k hk hO hT => by
    have e := h1.block k hk hO hT
    rw [h2.block k (Nat.lt_of_lt_of_le hk h1.size) hO (fun hB cs fr => by rw [e]; exact hT hB cs fr)]
    exact e⟩
theorem of_below (h : Below w.heap.size w w1) : Step B O w w1 := ⟨h.os, h.tape, h.output, h.size, fun k hk _ _ => h.block k hk⟩
theorem set (v : Value) : Step B O w (w.setCell ⟨O, 0, none⟩ v) := ⟨rfl, rfl, rfl, by simp, fun k _ hO _ => heap_setCell_other w ⟨O, 0, none⟩ k v hO⟩
theorem of_grown {A : Option Addr} {m c : Nat} {ad : Nat → Option Addr × Nat} {Ls : List (List Nat)} (hG : GridL w B A m c ad Ls) (hg : w.grownBy w1 (Value.ownBlock (.slice A m c))) : Step B O w w1 :=
  ⟨hg.os, hg.tape, hg.output, hg.size, fun k hk _ hT => hg.block k hk fun e => by
    obtain ⟨cs, h⟩ := own_typed hG.2.outer e.symm
    exact hT (hG.2.outer_lt e.symm).1 cs _ h⟩
theorem keep (h : Step B O w w1) {k : Nat} (hk : k < w.heap.size) (hO : k ≠ O) (hB : k < B) : w1.heap[k]? = w.heap[k]? := h.block k hk hO fun h2 => by omega
theorem cell (h : Step B O w w1) {k i : Nat} {v : Value} (hc : w.cell? ⟨k, i, none⟩ = some v) (hO : k ≠ O) (hB : k < B) : w1.cell? ⟨k, i, none⟩ = some v := by
  rw [World.cell?_of_block (h.keep (World.block_lt_of_cell? w _ hc) hO hB)]; exact hc
theorem pool (h : Step B O w w1) {o : Option Addr} {n : Nat} {x : Nat → Nat → Int} (hP : PoolAt w o n x) (hO : ∀ a, o = some a → a.block ≠ O ∧ a.block < B) : PoolAt w1 o n x := fun i hi => by
  obtain ⟨a, h1, h2, h3⟩ := hP i hi
  refine ⟨a, h1, by have := h.size; omega, fun j hj => ?_⟩
  rw [World.cell?_of_block (h.keep (by rw [add_block, add_block]; exact h2) (by rw [add_block, add_block]; exact (hO a h1).1) (by rw [add_block, add_block]; exact (hO a h1).2))]
  exact h3 j hj
theorem ints (h : Step B O w w1) {B1 m c : Nat} {o : Option Addr} {f : Nat → Int} (hI : Ints w B1 o m c f) (hO : O < B1) : Ints w1 B1 o m c f :=
  own_same hI fun g e => h.block g (World.ownsRow.lt hI g e).2 (by have := (World.ownsRow.lt hI g e).1; omega) fun _ cs fr h2 => by
    obtain ⟨cs', h3⟩ := own_typed hI e
    rw [h3] at h2
    injection h2 with h2
    injection h2 with _ h2
    exact absurd h2 (by decide)
theorem grid (h : Step B O w w1) {B1 m c : Nat} {A : Option Addr} {ad : Nat → Option Addr × Nat} {Ls : List (List Nat)} (hG : GridL w B1 A m c ad Ls) (hO : O < B1) (hk : ∀ g, Value.ownBlock (.slice A m c) = some g → w1.heap[g]? = w.heap[g]?) : GridL w1 B1 A m c ad Ls :=
  ⟨hG.1, own_same hG.2.outer hk, fun i hi => h.ints (hG.2.rows i hi) hO, hG.2.sep⟩
/-- Seen from before the box was made. -/
theorem to_below {b : Nat} {w0 : World} (h : Step B O w w1) (h0 : Below b w0 w) (hO : b ≤ O) (hB : b ≤ B) (hb : b ≤ w.heap.size) : Below b w0 w1 :=
  h0.trans ⟨h.os, h.tape, h.output, h.size, fun k hk => h.keep (by omega) (by omega) (by omega)⟩
end Step
end Go.Proofs.Ytbfhfadfjgfmaaa

/- IsRingRow, both sides. -/
set_option linter.unusedVariables false
set_option linter.unusedSimpArgs false
set_option linter.unusedSectionVars false
namespace Go.Proofs.Ytbfhfadfjgfmaaa
open Go.RowKit
def ringAt (n : Nat) (x : Nat → Nat → Int) (k : Nat) : Bool := beatB (x k) (x ((k + 1) % n))
def ringB (n : Nat) (x : Nat → Nat → Int) : Bool := allB (ringAt n x) n && decide (3 ≤ n)
noncomputable def ringV (n : Nat) (x : Nat → Nat → Int) : Bool := rowB n x && ringB n x
theorem ringB_no {n k : Nat} {x : Nat → Nat → Int} (hk : k < n) (h : ringAt n x k = false) : ringB n x = false := by unfold ringB; rw [allB_false hk h]; rfl
theorem ringB_yes {n : Nat} {x : Nat → Nat → Int} (h : ∀ j, j < n → ringAt n x j = true) : ringB n x = decide (3 ≤ n) := by unfold ringB; rw [(allB_iff _ _).2 h]; rfl
theorem beatI_leq (a b : Nat → Int) : decide (beatI a b ≤ 0) = !beatB a b := by
  rw [← beatI_pos]
  by_cases h : 0 < beatI a b
  · rw [decide_eq_true h, decide_eq_false (by omega)]; rfl
  · rw [decide_eq_false h, decide_eq_true (by omega)]; rfl
set_option maxHeartbeats 1000000 in
theorem isRing_any (o : Option Addr) (n c : Nat) (x : Nat → Nat → Int) (n1 : 1 ≤ n) (n6 : n ≤ 6) (p : Option Addr) (cp B : Nat) (w : World) (h : PoolAt w o n x) (hI : Ints w B p n cp (fun i => (i : Int))) : Calls Try.prog 68 #[poolV o n c, .slice p n cp] w fun e w' => e = .returned (.bool (ringB n x)) ∧ Below w.heap.size w w' := by
  have H := Lib.hid h; clear h
  have HI := Lib.hid hI; clear hI
  go_enter Try.func68, Try.ntmps68
  go_wp2
  go_loopw [9] (fun i wr => ∃ k : Nat, k ≤ n ∧ i = .int .i64 (k : Int) ∧ Hid (∀ j, j < k → ringAt n x j = true) ∧ Below w.heap.size w wr) (fun i _ => n - (intOf i).toNat)
  case atStart => exact ⟨0, by omega, rfl, (fun j hj => by omega), Below.refl _ _⟩
  case round =>
    obtain ⟨k, hk, rfl, HO, hb⟩ := hrel
    by_cases hlt : k < n
    · have d0 : decide (k < n) = true := by simp; omega
      obtain ⟨a1, rfl, hd⟩ := dice6 (H.out.below hb) hlt
      obtain ⟨r, hr⟩ : ∃ r, r = (k + 1) % n := ⟨_, rfl⟩
      have rlt : r < n := by rw [hr]; exact Nat.mod_lt _ (by omega)
      obtain ⟨gp, hp, _, _, c0⟩ := (HI.out.below hb).cell hlt
      obtain ⟨gp2, hp2, _, _, c1⟩ := (HI.out.below hb).cell rlt
      obtain rfl : gp = gp2 := by rw [hp] at hp2; injection hp2 with q; injection q
      subst hp
      clear hp2
      have HD := Lib.hid hd
      have HB2 := Lib.hid hb
      have C1 := Lib.hid c1
      clear hb hd
      have e1 : Int.tmod ((k : Int) + 1) (n : Int) = (r : Int) := by have := tmod_nat (k + 1) n; rw [hr, ← this]; rfl
      have e2 : ((k : Int) + 1) % (n : Int) = (r : Int) := by rw [hr]; rfl
      have e0 : IntKind.i64.wrap ((k : Int) + 1) = (k : Int) + 1 := IntWalk.i64_in _ (by omega)
      have d1 : ((n : Int) == 0) = false := by simp; omega
      have HR := Lib.hid hr
      have HL := Lib.hid (beatI_leq (x k) (x r))
      clear hr
      cases gb : beatB (x k) (x r)
      · have GB := Lib.hid (show ringAt n x k = false by unfold ringAt; rw [← HR.out]; exact gb)
        have d2 : decide (beatI (x k) (x r) ≤ 0) = true := by rw [HL.out, gb]; rfl
        go_wp2
        refine wp_region_grown_lit (by kernel_rfl) (by kernel_rfl) ?_
        repeat (first | go_big_quiet_skip | (go_big_quiet_want; (first | (refine grown_load_pool _ rfl (HD.out) rfl ?_ ?_; omega; simp only [Act.put, List.setIfInBounds_toArray, List.set_cons_succ, List.set_cons_zero]; go_big_quiet_on) | (refine grown_load_int 3 _ rfl rfl (C1.out) Try.isAgg3 ?_; simp only [Act.put, List.setIfInBounds_toArray, List.set_cons_succ, List.set_cons_zero]; go_big_quiet_on) | (go_big_quiet_op; (first | go_big_quiet_on | (refine ⟨_, fun _ _ => rfl, ?_⟩; go_big_quiet_on) | (apply Exists.intro; refine ⟨fun _ hC => ?_, ?_⟩; (first | (go_at_call 70; exact grown_of hC (beats_any _ _ _))); go_big_quiet_on))))))
        refine wpQuiet_nil ?_
        intro wg hg
        have HB3 := Lib.hid (HB2.out.trans (hg.below.mono HB2.out.size))
        clear hg e0 e1 e2 c0 c1
        go_wp2
        go_ret
        exact ⟨by rw [ringB_no hlt GB.out]; rfl, HB3.out⟩
      · have GB := Lib.hid (show ringAt n x k = true by unfold ringAt; rw [← HR.out]; exact gb)
        have d2 : decide (beatI (x k) (x r) ≤ 0) = false := by rw [HL.out, gb]; rfl
        go_wp2
        refine wp_region_grown_lit (by kernel_rfl) (by kernel_rfl) ?_
        repeat (first | go_big_quiet_skip | (go_big_quiet_want; (first | (refine grown_load_pool _ rfl (HD.out) rfl ?_ ?_; omega; simp only [Act.put, List.setIfInBounds_toArray, List.set_cons_succ, List.set_cons_zero]; go_big_quiet_on) | (refine grown_load_int 3 _ rfl rfl (C1.out) Try.isAgg3 ?_; simp only [Act.put, List.setIfInBounds_toArray, List.set_cons_succ, List.set_cons_zero]; go_big_quiet_on) | (go_big_quiet_op; (first | go_big_quiet_on | (refine ⟨_, fun _ _ => rfl, ?_⟩; go_big_quiet_on) | (apply Exists.intro; refine ⟨fun _ hC => ?_, ?_⟩; (first | (go_at_call 70; exact grown_of hC (beats_any _ _ _))); go_big_quiet_on))))))
        refine wpQuiet_nil ?_
        intro wg hg
        have HB3 := Lib.hid (HB2.out.trans (hg.below.mono HB2.out.size))
        clear hg e0 e1 e2 c0 c1
        go_wp2
        go_roundw
        case rel => exact ⟨k + 1, by omega, by go_num, (fun j hj => if e : j = k then e ▸ GB.out else HO.out j (by omega)), HB3.out⟩
        case measure => simp [intOf]; omega
    · have HF := Lib.hid (ringB_yes (n := n) (x := x) (fun j hj => HO.out j (by omega)))
      have HB2 := Lib.hid hb
      have d0 : decide (k < n) = false := by simp; omega
      clear hb
      by_cases h3 : 3 ≤ n
      · have HG := Lib.hid (decide_eq_true h3)
        have d3 : decide ((3 : Int) ≤ (n : Int)) = true := by simp; omega
        go_wp2
        go_ret
        exact ⟨by rw [HF.out, HG.out]; rfl, HB2.out⟩
      · have HG := Lib.hid (decide_eq_false h3)
        have d3 : decide ((3 : Int) ≤ (n : Int)) = false := by simp; omega
        go_wp2
        go_ret
        exact ⟨by rw [HF.out, HG.out]; rfl, HB2.out⟩
end Go.Proofs.Ytbfhfadfjgfmaaa

/- For RingsOf: isRing at whatever places, slices.Contains, slices.Clone, the reference's l1Has. -/
set_option linter.unusedVariables false
set_option linter.unusedSimpArgs false
set_option linter.unusedSectionVars false
namespace Go.Proofs.Ytbfhfadfjgfmaaa
open Go.RowKit
def ringAtQ (x : Nat → Nat → Int) (q : Nat → Nat) (m k : Nat) : Bool := beatB (x (q k)) (x (q ((k + 1) % m)))
def ringQB (x : Nat → Nat → Int) (q : Nat → Nat) (m : Nat) : Bool := allB (ringAtQ x q m) m && decide (3 ≤ m)
theorem ringQB_no {m k : Nat} {x : Nat → Nat → Int} {q : Nat → Nat} (hk : k < m) (h : ringAtQ x q m k = false) : ringQB x q m = false := by unfold ringQB; rw [allB_false hk h]; rfl
theorem ringQB_yes {m : Nat} {x : Nat → Nat → Int} {q : Nat → Nat} (h : ∀ j, j < m → ringAtQ x q m j = true) : ringQB x q m = decide (3 ≤ m) := by unfold ringQB; rw [(allB_iff _ _).2 h]; rfl
set_option maxHeartbeats 1000000 in
theorem isRingQ_any (o : Option Addr) (n c : Nat) (x : Nat → Nat → Int) (n6 : n ≤ 6) (q : Nat → Nat) (m : Nat) (m6 : m ≤ 6) (hq : ∀ i, i < m → q i < n) (p : Option Addr) (cp B : Nat) (w : World) (h : PoolAt w o n x) (hI : Ints w B p m cp (fun i => (q i : Int))) : Calls Try.prog 68 #[poolV o n c, .slice p m cp] w fun e w' => e = .returned (.bool (ringQB x q m)) ∧ Below w.heap.size w w' := by
  have H := Lib.hid h; clear h
  have HI := Lib.hid hI; clear hI
  have HQ := Lib.hid hq; clear hq
  go_enter Try.func68, Try.ntmps68
  go_wp2
  go_loopw [9] (fun i wr => ∃ k : Nat, k ≤ m ∧ i = .int .i64 (k : Int) ∧ Hid (∀ j, j < k → ringAtQ x q m j = true) ∧ Below w.heap.size w wr) (fun i _ => m - (intOf i).toNat)
  case atStart => exact ⟨0, by omega, rfl, (fun j hj => by omega), Below.refl _ _⟩
  case round =>
    obtain ⟨k, hk, rfl, HO, hb⟩ := hrel
    by_cases hlt : k < m
    · have d0 : decide (k < m) = true := by simp; omega
      obtain ⟨r, hr⟩ : ∃ r, r = (k + 1) % m := ⟨_, rfl⟩
      have rlt : r < m := by rw [hr]; exact Nat.mod_lt _ (by omega)
      obtain ⟨a1, rfl, hd⟩ := dice6 (H.out.below hb) (HQ.out k hlt)
      obtain ⟨gp, hp, _, _, c0⟩ := (HI.out.below hb).cell hlt
      obtain ⟨gp2, hp2, _, _, c1⟩ := (HI.out.below hb).cell rlt
      obtain rfl : gp = gp2 := by rw [hp] at hp2; injection hp2 with q; injection q
      subst hp
      clear hp2
      obtain ⟨u, hu⟩ : ∃ u, u = q k := ⟨_, rfl⟩
      obtain ⟨v, hv⟩ : ∃ v, v = q r := ⟨_, rfl⟩
      have ul : u < n := hu ▸ HQ.out k hlt
      have vl : v < n := hv ▸ HQ.out r rlt
      have HU := Lib.hid (And.intro hu hv)
      simp only [← hu, ← hv] at c0 c1
      have HD := Lib.hid hd
      have HB2 := Lib.hid hb
      have C1 := Lib.hid c1
      clear hb hd hu hv c1
      have e1 : Int.tmod ((k : Int) + 1) (m : Int) = (r : Int) := by have := tmod_nat (k + 1) m; rw [hr, ← this]; rfl
      have e2 : ((k : Int) + 1) % (m : Int) = (r : Int) := by rw [hr]; rfl
      have e0 : IntKind.i64.wrap ((k : Int) + 1) = (k : Int) + 1 := IntWalk.i64_in _ (by omega)
      have d1 : ((m : Int) == 0) = false := by simp; omega
      have HR := Lib.hid hr
      have HL := Lib.hid (beatI_leq (x u) (x v))
      clear hr
      cases gb : beatB (x u) (x v)
      · have GB := Lib.hid (show ringAtQ x q m k = false by unfold ringAtQ; rw [← HR.out, ← HU.out.1, ← HU.out.2]; exact gb)
        have d2 : decide (beatI (x u) (x v) ≤ 0) = true := by rw [HL.out, gb]; rfl
        go_wp2
        refine wp_region_grown_lit (by kernel_rfl) (by kernel_rfl) ?_
        repeat (first | go_big_quiet_skip | (go_big_quiet_want; (first | (refine grown_load_pool _ rfl (HD.out) rfl ?_ ?_; omega; simp only [Act.put, List.setIfInBounds_toArray, List.set_cons_succ, List.set_cons_zero]; go_big_quiet_on) | (refine grown_load_int 3 _ rfl rfl (C1.out) Try.isAgg3 ?_; simp only [Act.put, List.setIfInBounds_toArray, List.set_cons_succ, List.set_cons_zero]; go_big_quiet_on) | (go_big_quiet_op; (first | go_big_quiet_on | (refine ⟨_, fun _ _ => rfl, ?_⟩; go_big_quiet_on) | (apply Exists.intro; refine ⟨fun _ hC => ?_, ?_⟩; (first | (go_at_call 70; exact grown_of hC (beats_any _ _ _))); go_big_quiet_on))))))
        refine wpQuiet_nil ?_
        intro wg hg
        have HB3 := Lib.hid (HB2.out.trans (hg.below.mono HB2.out.size))
        clear hg e0 e1 e2 c0
        go_wp2
        go_ret
        exact ⟨by rw [ringQB_no hlt GB.out]; rfl, HB3.out⟩
      · have GB := Lib.hid (show ringAtQ x q m k = true by unfold ringAtQ; rw [← HR.out, ← HU.out.1, ← HU.out.2]; exact gb)
        have d2 : decide (beatI (x u) (x v) ≤ 0) = false := by rw [HL.out, gb]; rfl
        go_wp2
        refine wp_region_grown_lit (by kernel_rfl) (by kernel_rfl) ?_
        repeat (first | go_big_quiet_skip | (go_big_quiet_want; (first | (refine grown_load_pool _ rfl (HD.out) rfl ?_ ?_; omega; simp only [Act.put, List.setIfInBounds_toArray, List.set_cons_succ, List.set_cons_zero]; go_big_quiet_on) | (refine grown_load_int 3 _ rfl rfl (C1.out) Try.isAgg3 ?_; simp only [Act.put, List.setIfInBounds_toArray, List.set_cons_succ, List.set_cons_zero]; go_big_quiet_on) | (go_big_quiet_op; (first | go_big_quiet_on | (refine ⟨_, fun _ _ => rfl, ?_⟩; go_big_quiet_on) | (apply Exists.intro; refine ⟨fun _ hC => ?_, ?_⟩; (first | (go_at_call 70; exact grown_of hC (beats_any _ _ _))); go_big_quiet_on))))))
        refine wpQuiet_nil ?_
        intro wg hg
        have HB3 := Lib.hid (HB2.out.trans (hg.below.mono HB2.out.size))
        clear hg e0 e1 e2 c0
        go_wp2
        go_roundw
        case rel => exact ⟨k + 1, by omega, by go_num, (fun j hj => if e : j = k then e ▸ GB.out else HO.out j (by omega)), HB3.out⟩
        case measure => simp [intOf]; omega
    · have HF := Lib.hid (ringQB_yes (m := m) (x := x) (q := q) (fun j hj => HO.out j (by omega)))
      have HB2 := Lib.hid hb
      have d0 : decide (k < m) = false := by simp; omega
      clear hb
      by_cases h3 : 3 ≤ m
      · have HG := Lib.hid (decide_eq_true h3)
        have d3 : decide ((3 : Int) ≤ (m : Int)) = true := by simp; omega
        go_wp2
        go_ret
        exact ⟨by rw [HF.out, HG.out]; rfl, HB2.out⟩
      · have HG := Lib.hid (decide_eq_false h3)
        have d3 : decide ((3 : Int) ≤ (m : Int)) = false := by simp; omega
        go_wp2
        go_ret
        exact ⟨by rw [HF.out, HG.out]; rfl, HB2.out⟩
/-- Place j is not k. -/
def notAt (q : Nat → Nat) (k j : Nat) : Bool := q j != k
theorem indexQ_any (q : Nat → Nat) (m k : Nat) (hm : m ≤ 1000) (hk : k ≤ 1000) (p : Option Addr) (cp B : Nat) (w : World) (hI : Ints w B p m cp (fun i => (q i : Int))) : Calls Try.prog 104 #[.slice p m cp, .int .i64 (k : Int)] w fun e w' => e = .returned (.int .i64 (firstNot (notAt q k) m)) ∧ w = w' := by
  have HI := Lib.hid hI; clear hI
  go_enter Try.func104, Try.ntmps104
  go_wp2
  go_loop [8] (fun i => ∃ j : Nat, j ≤ m ∧ i = .int .i64 j ∧ Hid (∀ i, i < j → notAt q k i = true)) (fun i => m - (intOf i).toNat)
  case atStart => exact ⟨0, by omega, rfl, fun j hj => by omega⟩
  case round =>
    obtain ⟨j, hj, rfl, HO⟩ := hrel
    by_cases hlt : j < m
    · obtain ⟨g, rfl, _, _, c0⟩ := HI.out.cell hlt
      have d0 : decide (j < m) = true := by simp; omega
      obtain ⟨u, hu⟩ : ∃ u, u = q j := ⟨_, rfl⟩
      simp only [← hu] at c0
      by_cases e : u = k
      · have F := Lib.hid (firstNot_at (p := notAt q k) hlt (by unfold notAt; rw [← hu, e]; simp) HO.out)
        have d1 : ((k : Int) == (u : Int)) = true := by simp [e]
        clear hu e
        go_wp2
        go_ret
        exact ⟨by (rw [F.out]) <;> rfl, rfl⟩
      · have G := Lib.hid (show notAt q k j = true by unfold notAt; rw [← hu]; simpa using e)
        have d1 : ((k : Int) == (u : Int)) = false := by simp; omega
        clear hu e
        go_wp2
        go_round
        case rel => exact ⟨j + 1, by omega, by go_num, fun i hi => if e : i = j then e ▸ G.out else HO.out i (by omega)⟩
        case measure => simp [intOf]; omega
    · have F := Lib.hid (firstNot_none (p := notAt q k) (n := m) fun i hi => HO.out i (by omega))
      have d0 : decide (j < m) = false := by simp; omega
      go_wp2
      go_ret
      exact ⟨by (rw [F.out]) <;> rfl, rfl⟩
theorem containsQ_any (q : Nat → Nat) (m k : Nat) (hm : m ≤ 1000) (hk : k ≤ 1000) (p : Option Addr) (cp B : Nat) (w : World) (hI : Ints w B p m cp (fun i => (q i : Int))) : Calls Try.prog 69 #[.slice p m cp, .int .i64 (k : Int)] w fun e w' => e = .returned (.bool (!allB (notAt q k) m)) ∧ w = w' := by
  have HI := Lib.hid hI; clear hI
  have F := Lib.hid (firstNot_all (notAt q k) m)
  go_enter Try.func69, Try.ntmps69
  go_wp2_with (go_at_call 104; refine (indexQ_any q m k hm hk p cp B _ HI.out).mono ?_; rintro e w' ⟨rfl, rfl⟩)
  go_ret
  exact ⟨by rw [← F.out]; rfl, rfl⟩
theorem l1HasQ_any (q : Nat → Nat) (m k : Nat) (hm : m ≤ 1000) (hk : k ≤ 1000) (p : Option Addr) (cp B : Nat) (w : World) (hI : Ints w B p m cp (fun i => (q i : Int))) : Calls Try.prog 103 #[.slice p m cp, .int .i64 (k : Int)] w fun e w' => e = .returned (.bool (!allB (notAt q k) m)) ∧ w = w' := by
  have HI := Lib.hid hI; clear hI
  go_enter Try.func103, Try.ntmps103
  go_wp2
  go_loop [5] (fun i => ∃ j : Nat, j ≤ m ∧ i = .int .i64 j ∧ Hid (∀ i, i < j → notAt q k i = true)) (fun i => m - (intOf i).toNat)
  case atStart => exact ⟨0, by omega, rfl, fun j hj => by omega⟩
  case round =>
    obtain ⟨j, hj, rfl, HO⟩ := hrel
    by_cases hlt : j < m
    · obtain ⟨g, rfl, _, _, c0⟩ := HI.out.cell hlt
      have d0 : decide (j < m) = true := by simp; omega
      obtain ⟨u, hu⟩ : ∃ u, u = q j := ⟨_, rfl⟩
      simp only [← hu] at c0
      by_cases e : u = k
      · have F := Lib.hid (allB_false (p := notAt q k) hlt (by unfold notAt; rw [← hu, e]; simp))
        have d1 : ((u : Int) == (k : Int)) = true := by simp [e]
        clear hu e
        go_wp2
        go_ret
        exact ⟨by rw [F.out]; rfl, rfl⟩
      · have G := Lib.hid (show notAt q k j = true by unfold notAt; rw [← hu]; simpa using e)
        have d1 : ((u : Int) == (k : Int)) = false := by simp; omega
        clear hu e
        go_wp2
        go_round
        case rel => exact ⟨j + 1, by omega, by go_num, fun i hi => if e : i = j then e ▸ G.out else HO.out i (by omega)⟩
        case measure => simp [intOf]; omega
    · have F := Lib.hid ((allB_iff (notAt q k) m).2 fun i hi => HO.out i (by omega))
      have d0 : decide (j < m) = false := by simp; omega
      go_wp2
      go_ret
      exact ⟨by rw [F.out]; rfl, rfl⟩
theorem clone_any (a0 : Addr) (n c : Nat) (f : Nat → Int) (hn : n ≤ 1000) (w : World) (h : ∀ j, j < n → w.cell? (a0.add j) = some (.int .i64 (f j))) : Calls Try.prog 71 #[.slice (some a0) n c] w fun e w' => ∃ o' c', e = .returned (.slice o' n c') ∧ Ints w' w.heap.size o' n c' f ∧ Below w.heap.size w w' := by
  have Z1 := Lib.hid (Ints.empty w w.heap.size f (Nat.le_refl _))
  have Z2 := Lib.hid (show ∀ j, j < n → (w.alloc (.cells #[] 3)).cell? (a0.add j) = some (.int .i64 (f j)) from fun j hj => by
    have := h j hj
    rw [Below.cell ((Below.refl _ _).alloc (Nat.le_refl _) _) (World.block_lt_of_cell? w _ this)]
    exact this)
  have Z3 := Lib.hid (show w.heap.size ≤ (w.alloc (.cells #[] 3)).heap.size by simp)
  have Z4 := Lib.hid (show 0 + n ≤ 1000000 by omega)
  have en : ∀ w, (binOp .eql 60 (.slice (some a0) n c) (.slice none 0 0)).run Try.prog w = .ok (.bool false) w := fun w => Lib.run_eql_slice_nil w _ _ (some a0) n c 0 0 Try.underlying60
  clear h
  go_enter Try.func71, Try.ntmps71
  go_wp2_with (first | (((with_reducible apply (wpList_append_ints (f := f) (z := f))); (case hgd => rfl); (case ho => rfl); (case hs => rfl); (case hx => rfl); (case hS => exact Try.underlying60); (case hown => exact Z1.out); (case hz => exact Z2.out); (case hf => exact fun j hj => by rw [Nat.zero_add]); (case hm => exact Z4.out); (case hB => exact Z3.out); intro A2 c2 w2 hI2 hg2 hn2)) | fail)
  rw [Nat.zero_add] at hI2
  have HI2 := Lib.hid hI2; have HG2 := Lib.hid hg2
  clear hI2 hg2 hn2
  go_ret
  exact ⟨A2, c2, rfl, HI2.out, below_grown ((Below.refl _ _).alloc (Nat.le_refl _) _) HG2.out (fun g e => (World.ownsRow.lt Z1.out g e).1) (by simp)⟩
end Go.Proofs.Ytbfhfadfjgfmaaa

/- For RingsOf: paths as rows of numbers; what a loop over the places that may follow has found. In plain Lean; and the invariant of the region that calls grow again. -/
set_option linter.unusedVariables false
set_option linter.unusedSimpArgs false
set_option linter.unusedSectionVars false
namespace Go.Proofs.Ytbfhfadfjgfmaaa
open Go.RowKit
def Bt (x : Nat → Nat → Int) (i j : Nat) : Bool := beatB (x i) (x j)
abbrev qF (p : List Nat) (i : Nat) : Nat := p.getD i 0
theorem head_at (p : List Nat) : p.headD 0 = qF p 0 := by cases p <;> rfl
theorem last_at (p : List Nat) : p.getLastD 0 = qF p (p.length - 1) := by
  unfold qF
  rw [List.getD_eq_getElem?_getD, List.getLastD_eq_getLast?, List.getLast?_eq_getElem?]
theorem has_at (p : List Nat) (k : Nat) : p.contains k = !allB (notAt (qF p) k) p.length := by
  cases e : allB (notAt (qF p) k) p.length
  · have : ¬ ∀ i, i < p.length → notAt (qF p) k i = true := fun h => by rw [(allB_iff _ _).2 h] at e; cases e
    simp only [Bool.not_false, List.contains_eq_mem, decide_eq_true_eq]
    by_cases hk : k ∈ p
    · exact hk
    · refine absurd (fun i hi => ?_) this
      unfold notAt qF
      rw [List.getD_eq_getElem?_getD, List.getElem?_eq_getElem hi]
      simp only [Option.getD_some, bne_iff_ne, ne_eq]
      exact fun e => hk (e ▸ List.getElem_mem hi)
  · have h := (allB_iff _ _).1 e
    simp only [Bool.not_true, List.contains_eq_mem, decide_eq_false_iff_not]
    intro hk
    obtain ⟨i, hi, rfl⟩ := List.getElem_of_mem hk
    have := h i hi
    unfold notAt qF at this
    rw [List.getD_eq_getElem?_getD, List.getElem?_eq_getElem hi] at this
    simp at this
theorem Path.at {n : Nat} {p : List Nat} (h : Path n p) {i : Nat} (hi : i < p.length) : qF p i < n := by
  unfold qF
  rw [List.getD_eq_getElem?_getD, List.getElem?_eq_getElem hi]
  exact h.lt _ (List.getElem_mem hi)
theorem Path.pos {n : Nat} {p : List Nat} (h : Path n p) : 1 ≤ p.length := by
  cases p with
  | nil => exact absurd rfl h.ne
  | cons a t => simp
/-- Each beats the next. -/
def Chain (B : Nat → Nat → Bool) (p : List Nat) : Prop := ∀ i, i + 1 < p.length → B (qF p i) (qF p (i + 1)) = true
theorem Chain.one (B : Nat → Nat → Bool) (i : Nat) : Chain B [i] := fun j h => by simp at h
theorem qF_left {p : List Nat} {k i : Nat} (h : i < p.length) : qF (p ++ [k]) i = qF p i := by
  simp only [qF, List.getD_eq_getElem?_getD, List.getElem?_append_left h]
theorem qF_last (p : List Nat) (k : Nat) : qF (p ++ [k]) p.length = k := by
  simp [qF, List.getD_eq_getElem?_getD]
theorem Chain.next {n : Nat} {B : Nat → Nat → Bool} {p : List Nat} {k : Nat} (h : Chain B p) (hp : p ≠ []) (hk : k ∈ nextR n B p) : Chain B (p ++ [k]) := fun i hi => by
  simp only [List.length_append, List.length_cons, List.length_nil] at hi
  have h1 : 0 < p.length := by cases p with | nil => exact absurd rfl hp | cons => simp
  rw [qF_left (by omega)]
  by_cases e : i + 1 < p.length
  · rw [qF_left e]; exact h i e
  · have e2 : i + 1 = p.length := by omega
    rw [e2, qF_last]
    have := (nextR_mem hk).2.2.2
    rw [last_at, show p.length - 1 = i by omega] at this
    exact this
theorem ring_chain {x : Nat → Nat → Int} {p : List Nat} (h : Chain (Bt x) p) (hp : 1 ≤ p.length) : ringQB x (qF p) p.length = (Bt x (p.getLastD 0) (p.headD 0) && decide (3 ≤ p.length)) := by
  unfold ringQB
  congr 1
  rw [head_at, last_at]
  cases e : Bt x (qF p (p.length - 1)) (qF p 0)
  · refine allB_false (k := p.length - 1) (by omega) ?_
    unfold ringAtQ
    rw [show p.length - 1 + 1 = p.length by omega, Nat.mod_self]
    exact e
  · refine (allB_iff _ _).2 fun i hi => ?_
    unfold ringAtQ
    by_cases e2 : i + 1 < p.length
    · rw [Nat.mod_eq_of_lt e2]; exact h i e2
    · have e3 : i + 1 = p.length := by omega
      rw [e3, Nat.mod_self, show i = p.length - 1 by omega]; exact e
/-- May k follow. -/
def nextC (B : Nat → Nat → Bool) (p : List Nat) (k : Nat) : Bool := decide (p.headD 0 < k) && !p.contains k && B (p.getLastD 0) k
/-- What has been found behind the places below k that may follow. -/
def upTo {α : Type} (B : Nat → Nat → Bool) (p : List Nat) (f : Nat → List α) (k : Nat) : List α := ((List.range k).filter (nextC B p)).flatMap f
theorem upTo_all {α : Type} {n : Nat} {B : Nat → Nat → Bool} {p : List Nat} {f : Nat → List α} : (nextR n B p).flatMap f = upTo B p f n := rfl
theorem upTo_start {α : Type} {B : Nat → Nat → Bool} {p : List Nat} {f : Nat → List α} {k : Nat} (h : k = p.headD 0 + 1) : upTo B p f k = [] := by
  unfold upTo
  rw [List.filter_eq_nil_iff.2]
  · rfl
  · intro a ha
    have := List.mem_range.1 ha
    simp only [nextC, Bool.and_eq_true, decide_eq_true_eq]
    omega
theorem upTo_yes {α : Type} {B : Nat → Nat → Bool} {p : List Nat} {f : Nat → List α} {k : Nat} (h : nextC B p k = true) : upTo B p f (k + 1) = upTo B p f k ++ f k := by
  unfold upTo
  rw [List.range_succ, List.filter_append, List.flatMap_append]
  simp [h]
theorem upTo_no {α : Type} {B : Nat → Nat → Bool} {p : List Nat} {f : Nat → List α} {k : Nat} (h : nextC B p k = false) : upTo B p f (k + 1) = upTo B p f k := by
  unfold upTo
  rw [List.range_succ, List.filter_append, List.flatMap_append]
  simp [h]
theorem upTo_len {α : Type} {B : Nat → Nat → Bool} {p : List Nat} {f : Nat → List α} {k : Nat} : ∀ n, k ≤ n → (upTo B p f k).length ≤ (upTo B p f n).length
  | 0, h => by obtain rfl : k = 0 := by omega
               exact Nat.le_refl _
  | n + 1, h => by
    by_cases e : k = n + 1
    · subst e; exact Nat.le_refl _
    · refine Nat.le_trans (upTo_len n (by omega)) ?_
      cases q : nextC B p n
      · rw [upTo_no q]; exact Nat.le_refl _
      · rw [upTo_yes q, List.length_append]; omega
theorem nextC_mem {n : Nat} {B : Nat → Nat → Bool} {p : List Nat} {k : Nat} (hk : k < n) (h : nextC B p k = true) : k ∈ nextR n B p := by
  unfold nextR
  exact List.mem_filter.2 ⟨List.mem_range.2 hk, h⟩
theorem nextC_has {B : Nat → Nat → Bool} {p : List Nat} {k : Nat} (h : allB (notAt (qF p) k) p.length = false) : nextC B p k = false := by
  unfold nextC
  rw [has_at, h]; simp
theorem nextC_free {B : Nat → Nat → Bool} {p : List Nat} {k : Nat} (h : allB (notAt (qF p) k) p.length = true) (hk : qF p 0 < k) : nextC B p k = B (qF p (p.length - 1)) k := by
  unfold nextC
  rw [has_at, h, head_at, last_at, decide_eq_true hk]; simp
theorem Ints.single (w : World) {B : Nat} (k : Nat) (hB : B ≤ w.heap.size) : Ints (w.alloc (.cells #[.int .i64 (k : Int)] 3)) B (some ⟨w.heap.size, 0, none⟩) 1 1 (lF [k]) :=
  Ints.ofBlk (m := 1) (f := lF [k]) hB (Nat.le_refl _) (by decide) (Blk.newAt (n := 1) (f := fun _ => .int .i64 (k : Int)) rfl rfl) fun i hi => by
    have e : i = 0 := by omega
    rw [e]; rfl
/-! ### the region that calls grow again -/
structure RGs where
  a : Option Addr
  ca : Nat
  b : Nat
  d : Option Addr
  cd : Nat
def RG6 (W0 : World) (m k : Nat) (f : Nat → Int) (R : World → Prop) (s : Nat → Bool) (q : RGs) (w : World) : Prop :=
  ((s 2 = true → s 1 = true) ∧ (s 4 = true → s 3 = true) ∧ (s 5 = true → s 2 = true ∧ s 4 = true) ∧ (s 6 = true → s 0 = true ∧ s 5 = true)) ∧ (s 6 = false → Grew W0 w) ∧ (s 2 = true → s 5 = false → Ints w W0.heap.size q.a m q.ca f) ∧ (s 4 = true → s 5 = false → w.cell? ⟨q.b, 0, none⟩ = some (.int .i64 (k : Int))) ∧ (s 5 = true → s 6 = false → Ints w W0.heap.size q.d (m + 1) q.cd f) ∧ (s 6 = true → R w)
namespace RG6
variable {W0 w w' : World} {m k j : Nat} {f : Nat → Int} {R : World → Prop} {s : Nat → Bool} {q : RGs}
theorem init (q : RGs) : RG6 W0 m k f R (fun _ => false) q W0.drew := ⟨⟨(by intro h; cases h), (by intro h; cases h), (by intro h; cases h), (by intro h; cases h)⟩, fun _ => ⟨rfl, rfl, rfl, Nat.le_refl _, fun _ _ => rfl⟩, (by intro h; cases h), (by intro h; cases h), (by intro h; cases h), (by intro h; cases h)⟩
theorem no6 (h : RG6 W0 m k f R s q w) (hs : s j = false) (hj : j < 6) : s 6 = false := by
  obtain ⟨⟨h1, h2, h3, h4⟩, _⟩ := h
  cases e : s 6
  · rfl
  · have a0 := (h4 e).1
    have a5 := (h4 e).2
    have a2 := (h3 a5).1
    have a4 := (h3 a5).2
    have a1 := h1 a2
    have a3 := h2 a4
    match j, hj with
    | 0, _ => rw [a0] at hs; cases hs
    | 1, _ => rw [a1] at hs; cases hs
    | 2, _ => rw [a2] at hs; cases hs
    | 3, _ => rw [a3] at hs; cases hs
    | 4, _ => rw [a4] at hs; cases hs
    | 5, _ => rw [a5] at hs; cases hs
theorem grew (h : RG6 W0 m k f R s q w) (h6 : s 6 = false) : Grew W0 w := h.2.1 h6
theorem keep (h : RG6 W0 m k f R s q w) (h6 : s 6 = false) (hj : j = 0 ∨ j = 1 ∨ j = 3) : RG6 W0 m k f R (upd s j true) q w := by
  obtain ⟨⟨h1, h2, h3, h4⟩, g0, g1, g2, g3, g4⟩ := h
  rcases hj with rfl | rfl | rfl
  · exact ⟨⟨by simpa [upd] using h1, by simpa [upd] using h2, by simpa [upd] using h3, by simp [upd, h6]⟩, by simpa [upd] using g0, by simpa [upd] using g1, by simpa [upd] using g2, by simpa [upd] using g3, by simpa [upd] using g4⟩
  · exact ⟨⟨by simp [upd], by simpa [upd] using h2, by simpa [upd] using h3, by simp [upd, h6]⟩, by simpa [upd] using g0, by simpa [upd] using g1, by simpa [upd] using g2, by simpa [upd] using g3, by simpa [upd] using g4⟩
  · exact ⟨⟨by simpa [upd] using h1, by simp [upd], by simpa [upd] using h3, by simp [upd, h6]⟩, by simpa [upd] using g0, by simpa [upd] using g1, by simpa [upd] using g2, by simpa [upd] using g3, by simpa [upd] using g4⟩
theorem own (h : RG6 W0 m k f R s q w) (h6 : s 6 = false) (h1 : s 1 = true) (hb : Below w.heap.size w w') {o : Option Addr} {c : Nat} (hI : Ints w' w.heap.size o m c f) : RG6 W0 m k f R (upd s 2 true) { q with a := o, ca := c } w' := by
  obtain ⟨⟨e1, e2, e3, e4⟩, g0, g1, g2, g3, g4⟩ := h
  have hG := g0 h6
  refine ⟨⟨by simpa [upd] using h1, by simpa [upd] using e2, fun h5 => ⟨by simp [upd], ?_⟩, by simp [upd, h6]⟩, fun _ => hG.below.trans (hb.mono hG.below.size), fun _ _ => hI.base hG.below.size, fun a4 a5 => ?_, fun a5 _ => ?_, fun a6 => by simp [upd, h6] at a6⟩
  · have := (e3 (by simpa [upd] using h5)).2
    simpa [upd] using this
  · have := g2 (by simpa [upd] using a4) (by simpa [upd] using a5)
    exact (Below.cell hb (World.block_lt_of_cell? w _ this)).trans this
  · exact (g3 (by simpa [upd] using a5) h6).below hb
theorem box (h : RG6 W0 m k f R s q w) (h6 : s 6 = false) (h3 : s 3 = true) : RG6 W0 m k f R (upd s 4 true) { q with b := w.heap.size } (w.alloc (.cells #[.int .i64 (k : Int)] 3)) := by
  obtain ⟨⟨e1, e2, e3, e4⟩, g0, g1, g2, g3, g4⟩ := h
  have hG := g0 h6
  have hb : Below w.heap.size w (w.alloc (.cells #[.int .i64 (k : Int)] 3)) := (Below.refl _ _).alloc (Nat.le_refl _) _
  refine ⟨⟨by simpa [upd] using e1, by simpa [upd] using h3, fun h5 => ⟨?_, by simp [upd]⟩, by simp [upd, h6]⟩, fun _ => hG.below.trans (hb.mono hG.below.size), fun a2 a5 => ?_, fun _ _ => by simp, fun a5 _ => ?_, fun a6 => by simp [upd, h6] at a6⟩
  · have := (e3 (by simpa [upd] using h5)).1
    simpa [upd] using this
  · exact (g1 (by simpa [upd] using a2) (by simpa [upd] using a5)).below hb
  · exact (g3 (by simpa [upd] using a5) h6).below hb
theorem app (h : RG6 W0 m k f R s q w) (h6 : s 6 = false) (h2 : s 2 = true) (h4 : s 4 = true) (h5 : s 5 = false) {o : Option Addr} {c : Nat} (hI : Ints w' W0.heap.size o (m + 1) c f) (hg : w.grownBy w' (Value.ownBlock (.slice q.a m q.ca))) : RG6 W0 m k f R (upd s 5 true) { q with d := o, cd := c } w' := by
  obtain ⟨⟨e1, e2, e3, e4⟩, g0, g1, g2, g3, g4⟩ := h
  have hG := g0 h6
  refine ⟨⟨by simpa [upd] using e1, by simpa [upd] using e2, fun _ => ⟨by simpa [upd] using h2, by simpa [upd] using h4⟩, by simp [upd, h6]⟩, fun _ => below_grown hG.below hg (fun g e => (World.ownsRow.lt (g1 h2 h5) g e).1) hG.below.size, fun _ a5 => by simp [upd] at a5, fun _ a5 => by simp [upd] at a5, fun _ _ => hI, fun a6 => by simp [upd, h6] at a6⟩
theorem call (h : RG6 W0 m k f R s q w) (h0 : s 0 = true) (h5 : s 5 = true) (hR : R w') : RG6 W0 m k f R (upd s 6 true) q w' := by
  obtain ⟨⟨e1, e2, e3, e4⟩, g0, g1, g2, g3, g4⟩ := h
  refine ⟨⟨by simpa [upd] using e1, by simpa [upd] using e2, by simpa [upd] using e3, fun _ => ⟨by simpa [upd] using h0, by simpa [upd] using h5⟩⟩, fun a6 => by simp [upd] at a6, fun _ a5 => by simp [upd, h5] at a5, fun _ a5 => by simp [upd, h5] at a5, fun _ a6 => by simp [upd] at a6, fun _ => hR⟩
end RG6
end Go.Proofs.Ytbfhfadfjgfmaaa
