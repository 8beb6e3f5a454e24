/- JoinStrings, both sides. -/
import Derived.Test.YthjfnfhadgmglaaTxt
import Derived.Test.YthjfnfhadgmglaaJoinP
import Derived.Test.YthjfnfhadgmglaaFrameStrs
import Derived.Test.YthjfnfhadgmglaaJoiP
import Derived.Test.YthjfnfhadgmglaaConP
import Derived.Lib.IndexLaws
import Derived.Laws.MakeOwn
set_option linter.unusedVariables false
set_option linter.unusedSimpArgs false
set_option linter.unusedSectionVars false
namespace Go.Proofs.Ythjfnfhadgmglaa
open Go.RowKit
/-- Does byte c stand in the text? -/
def hasC (c : UInt8) (s : ByteArray) : Bool := decide (0 ≤ Lib.indexByte s.data.toList c)
theorem hasC_yes {c : UInt8} {s : ByteArray} {k : Nat} (h : k < s.size) (e : (s[k]'h) = c) : hasC c s = true := by
  have hg := Lib.indexByte_ge s.data.toList c
  unfold hasC
  by_cases q : Lib.indexByte s.data.toList c = -1
  · have h1 := Lib.indexByte_none q k
    have h2 : s.data.toList[k]? = some c := by
      rw [← e]
      simp only [Array.getElem?_toList]
      exact Array.getElem?_eq_getElem h
    exact absurd h2 h1
  · exact decide_eq_true (by omega)
theorem hasC_no {c : UInt8} {s : ByteArray} (h : ∀ k (hk : k < s.size), (s[k]'hk) ≠ c) : hasC c s = false := by
  have hg := Lib.indexByte_ge s.data.toList c
  unfold hasC
  apply decide_eq_false
  intro h0
  obtain ⟨o, ho⟩ := Int.eq_ofNat_of_zero_le h0
  have h1 := (Lib.indexByte_some ho).1
  simp only [Array.getElem?_toList] at h1
  obtain ⟨hlt, e⟩ := Array.getElem?_eq_some_iff.1 h1
  exact h o hlt e
set_option maxHeartbeats 1000000 in
theorem stands_any (s : ByteArray) (c : UInt8) (hs : s.size ≤ 1048576) (w : World) : Calls Try.prog 18 #[.string s, .int .u8 (c.toNat : Int)] w fun e w' => e = .returned (.bool (hasC c s)) ∧ w = w' := by
  go_enter Try.func18, Try.ntmps18
  go_wp2
  go_loopw [5] (fun i wr => ∃ k : Nat, k ≤ s.size ∧ i = .int .i64 (k : Int) ∧ Hid (∀ j (hj : j < s.size), j < k → (s[j]'hj) ≠ c) ∧ w = wr) (fun i _ => s.size - (intOf i).toNat)
  case atStart => exact ⟨0, by omega, rfl, fun j _ h => by omega, rfl⟩
  case round =>
    obtain ⟨k, hk, rfl, HK, rfl⟩ := hrel
    by_cases hlt : k < s.size
    · have d1 : decide ((k : Int) < (s.size : Int)) = true := by simp; omega
      by_cases he : (s[k]'hlt) = c
      · have HY := Lib.hid (hasC_yes hlt he)
        have d2 : (((s[k]'hlt).toNat : Int) == (c.toNat : Int)) = true := by rw [he]; simp
        clear he
        go_wp2
        go_ret
        exact ⟨by rw [HY.out]; rfl, rfl⟩
      · have HE := Lib.hid he
        have d2 : (((s[k]'hlt).toNat : Int) == (c.toNat : Int)) = false := by
          rw [beq_eq_false_iff_ne]
          intro e
          exact he (UInt8.toNat_inj.1 (by omega))
        clear he
        go_wp2
        go_roundw
        case rel => exact ⟨k + 1, by omega, by go_num, fun j hj h => by
          by_cases e : j = k
          · subst e; exact HE.out
          · exact HK.out j hj (by omega), trivial⟩
        case measure => simp [intOf]; omega
    · have d1 : decide ((k : Int) < (s.size : Int)) = false := by simp; omega
      have HN := Lib.hid (hasC_no (c := c) (s := s) (fun j hj => HK.out j hj (by omega)))
      go_wp2
      go_ret
      exact ⟨by rw [HN.out]; rfl, rfl⟩
/-- The closure that asks whether a text is free of the separator. -/
abbrev freeV (S : Nat) : Value := .func (.func 20) #[] #[.pointer (some ⟨S, 0, none⟩)]
abbrev notFreeV (B : Nat) : Value := .func (.func 24) #[] #[.pointer (some ⟨B, 0, none⟩)]
theorem free_any (x : ByteArray) (c : UInt8) (S : Nat) (w : World) (hS : w.cell? ⟨S, 0, none⟩ = some (.string ⟨#[c]⟩)) : Calls Try.prog 20 #[.string x, .pointer (some ⟨S, 0, none⟩)] w fun e w' => e = .returned (.bool (!hasC c x)) ∧ w = w' := by
  go_enter Try.func20, Try.ntmps20
  go_wp2_with fail
  go_at_call 21
  refine (Try.strings_Contains_one x c _).mono ?_
  rintro e w' ⟨rfl, rfl⟩
  go_wp2
  go_ret
  exact ⟨rfl, rfl⟩
theorem notFree_any (x : ByteArray) (c : UInt8) (S B : Nat) (w : World) (hS : w.cell? ⟨S, 0, none⟩ = some (.string ⟨#[c]⟩)) (hB : w.cell? ⟨B, 0, none⟩ = some (freeV S)) : Calls Try.prog 24 #[.string x, .pointer (some ⟨B, 0, none⟩)] w fun e w' => e = .returned (.bool (hasC c x)) ∧ w = w' := by
  go_enter Try.func24, Try.ntmps24
  go_wp2_with (go_at_call 20; refine (free_any _ c _ _ hS).mono ?_; rintro e w' ⟨rfl, rfl⟩)
  go_ret
  exact ⟨rfl, rfl⟩
theorem idxFree_any (b n S B : Nat) (c : UInt8) (x : Nat → ByteArray) (hn : n ≤ 1048576) (w : World) (h0 : Blk w b n 9 (fun i => .string (x i))) (hS : w.cell? ⟨S, 0, none⟩ = some (.string ⟨#[c]⟩)) (hB : w.cell? ⟨B, 0, none⟩ = some (freeV S)) :
    Calls Try.prog 29 #[.slice (some ⟨b, 0, none⟩) n n, notFreeV B] w fun e w' => e = .returned (.int .i64 (firstNot (fun i => !hasC c (x i)) n)) ∧ w = w' := by
  have H0 := Lib.hid h0; clear h0
  go_enter Try.func29, Try.ntmps29
  go_wp2
  go_loop [8] (fun i => ∃ k : Nat, k ≤ n ∧ i = .int .i64 k ∧ Hid (∀ j, j < k → (!hasC c (x j)) = true)) (fun i => n - (intOf i).toNat)
  case atStart => exact ⟨0, by omega, rfl, fun j hj => by omega⟩
  case round =>
    obtain ⟨k, hk, rfl, HO⟩ := hrel
    by_cases hlt : k < n
    · have c0 : w.cell? ⟨b, k, none⟩ = some (.string (x k)) := H0.out.cell hlt
      cases hf' : hasC c (x k)
      · have G : Hid (∀ j, j < k + 1 → (!hasC c (x j)) = true) := fun j hj => if e : j = k then (by rw [e, hf']; rfl) else HO.out j (by omega)
        go_wp2_with (go_at_call 24; refine (notFree_any _ c _ _ _ hS hB).mono ?_; rintro e w' ⟨rfl, rfl⟩)
        go_round
        case rel => exact ⟨k + 1, by omega, by go_num, G⟩
        case measure => simp [intOf]; omega
      · have F := Lib.hid (firstNot_at (p := fun i => !hasC c (x i)) hlt (by rw [hf']; rfl) HO.out)
        go_wp2_with (go_at_call 24; refine (notFree_any _ c _ _ _ hS hB).mono ?_; rintro e w' ⟨rfl, rfl⟩)
        go_ret
        exact ⟨by (rw [F.out]) <;> rfl, rfl⟩
    · have F := Lib.hid (firstNot_none (p := fun i => !hasC c (x i)) (n := n) fun j hj => HO.out j (by omega))
      go_wp2
      go_ret
      exact ⟨by (rw [F.out]) <;> rfl, rfl⟩
theorem containsFree_any (b n S B : Nat) (c : UInt8) (x : Nat → ByteArray) (hn : n ≤ 1048576) (w : World) (h0 : Blk w b n 9 (fun i => .string (x i))) (hS : w.cell? ⟨S, 0, none⟩ = some (.string ⟨#[c]⟩)) (hB : w.cell? ⟨B, 0, none⟩ = some (freeV S)) :
    Calls Try.prog 23 #[.slice (some ⟨b, 0, none⟩) n n, notFreeV B] w fun e w' => e = .returned (.bool (!allB (fun i => !hasC c (x i)) n)) ∧ w = w' := by
  have H0 := Lib.hid h0; clear h0
  have F := Lib.hid (firstNot_all (fun i => !hasC c (x i)) n)
  go_enter Try.func23, Try.ntmps23
  go_wp2_with (go_at_call 29; refine (idxFree_any _ _ S _ c x hn _ H0.out hS hB).mono ?_; rintro e w' ⟨rfl, rfl⟩)
  go_ret
  exact ⟨by rw [← F.out]; rfl, rfl⟩
theorem areFree_any (b n S : Nat) (c : UInt8) (x : Nat → ByteArray) (hn : n ≤ 1048576) (w : World) (h0 : Blk w b n 9 (fun i => .string (x i))) (hS : w.cell? ⟨S, 0, none⟩ = some (.string ⟨#[c]⟩)) :
    Calls Try.prog 19 #[.slice (some ⟨b, 0, none⟩) n n, freeV S] w fun e w' => e = .returned (.bool (allB (fun i => !hasC c (x i)) n)) ∧ Below w.heap.size w w' := by
  have H0 := Lib.hid h0; clear h0
  have HS := Lib.hid (fun q => cell_keep hS ((Below.refl w.heap.size w).alloc (Nat.le_refl _) q))
  go_enter Try.func19, Try.ntmps19
  go_wp2_with (go_at_call 23; refine (containsFree_any _ _ S _ c x hn _ (H0.out.alloc _) (HS.out _) (by simp)).mono ?_; rintro e w' ⟨rfl, rfl⟩)
  go_ret
  exact ⟨by simp, (Below.refl _ _).alloc (by omega) _⟩
def joinB (n : Nat) (x : Nat → ByteArray) (sep : ByteArray) : Bool := decide (0 < n) && (decide (sep.size = 1) && (allB (fun i => !hasC (sep.data.getD 0 0) (x i)) n && decide (szs x n + (n - 1) ≤ 4000)))
def joinV (n : Nat) (x : Nat → ByteArray) (sep : ByteArray) : ByteArray := if joinB n x sep then jn x sep n else ⟨#[]⟩
end Go.Proofs.Ythjfnfhadgmglaa
