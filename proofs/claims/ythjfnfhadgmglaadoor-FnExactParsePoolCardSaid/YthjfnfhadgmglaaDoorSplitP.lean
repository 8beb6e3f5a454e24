/- Plain: a text cut at a byte, as a loop does it and as the library's Split and Cut do it. -/
import Derived.Test.YthjfnfhadgmglaaDoorBase
import Derived.Lib.SplitLaws
import Derived.Lib.IndexLaws
set_option linter.unusedVariables false
set_option linter.unusedSimpArgs false
set_option linter.unusedSectionVars false
namespace Go.Proofs.YthjfnfhadgmglaaDoor
/-- A text cut at byte c, 'cur' already read. -/
def sp (c : UInt8) : List UInt8 → List UInt8 → List (List UInt8)
  | cur, [] => [cur]
  | cur, b :: l => if b = c then cur :: sp c [] l else sp c (cur ++ [b]) l
theorem sp_ne (c : UInt8) : ∀ l cur, sp c cur l ≠ []
  | [], cur => by simp [sp]
  | b :: l, cur => by
    unfold sp
    split
    · simp
    · exact sp_ne c l _
theorem sp_cons (c : UInt8) : ∀ l cur, ∃ h t, sp c [] l = h :: t ∧ sp c cur l = (cur ++ h) :: t
  | [], cur => ⟨[], [], rfl, by simp [sp]⟩
  | b :: l, cur => by
    by_cases e : b = c
    · exact ⟨[], sp c [] l, by rw [sp, if_pos e], by rw [sp, if_pos e, List.append_nil]⟩
    · obtain ⟨h, t, h1, h2⟩ := sp_cons c l [b]
      obtain ⟨h', t', h1', h2'⟩ := sp_cons c l (cur ++ [b])
      rw [h1] at h1'
      obtain ⟨rfl, rfl⟩ := List.cons.inj h1'
      exact ⟨[b] ++ h, t, by rw [sp, if_neg e, List.nil_append, h2], by rw [sp, if_neg e, h2']; simp⟩
theorem index_cons_eq (c : UInt8) (l : List UInt8) : Lib.index (c :: l) [c] = 0 := by simp [Lib.index]
theorem index_cons_ne {b c : UInt8} (l : List UInt8) (h : b ≠ c) : Lib.index (b :: l) [c] = if Lib.index l [c] == -1 then -1 else Lib.index l [c] + 1 := by
  have : [c].isPrefixOf (b :: l) = false := by simp [List.isPrefixOf]; exact fun e => h e.symm
  rw [Lib.index, this]
  rfl
theorem splitK_ne {b c : UInt8} (h : b ≠ c) (k : Nat) (l hd : List UInt8) (tl : List (List UInt8)) (e : Lib.splitK [c] 0 k l = hd :: tl) : Lib.splitK [c] 0 k (b :: l) = (b :: hd) :: tl := by
  cases k with
  | zero => simp only [Lib.splitK] at e ⊢; obtain ⟨rfl, rfl⟩ := List.cons.inj e; rfl
  | succ k =>
    unfold Lib.splitK at e ⊢
    rw [index_cons_ne l h]
    have hg := Lib.index_ge l [c]
    by_cases q : Lib.index l [c] = -1
    · rw [q] at e ⊢
      simp only [beq_self_eq_true, if_true] at e ⊢
      obtain ⟨rfl, rfl⟩ := List.cons.inj e; rfl
    · have q1 : (Lib.index l [c] == -1) = false := by rw [beq_eq_false_iff_ne]; exact q
      have q2 : (Lib.index l [c] + 1 == -1) = false := by rw [beq_eq_false_iff_ne]; omega
      rw [q1] at e ⊢
      simp only [Bool.false_eq_true, if_false, q2] at e ⊢
      obtain ⟨i, hi⟩ := Int.eq_ofNat_of_zero_le (show 0 ≤ Lib.index l [c] by omega)
      rw [hi] at e ⊢
      have t1 : ((i : Int) + 1).toNat = i + 1 := by omega
      rw [t1]
      simp only [Int.toNat_natCast, Nat.add_zero, List.length_cons, List.length_nil, Nat.zero_add] at e ⊢
      obtain ⟨rfl, rfl⟩ := List.cons.inj e
      rfl
theorem splitK_sp (c : UInt8) : ∀ l : List UInt8, Lib.splitK [c] 0 (Lib.count l [c]) l = sp c [] l
  | [] => by rw [Lib.count_one]; rfl
  | b :: l => by
    have ih := splitK_sp c l
    by_cases e : b = c
    · subst e
      rw [Lib.count_cons_eq, Nat.add_comm, Lib.splitK, index_cons_eq, sp, if_pos rfl, ← ih]
      rfl
    · obtain ⟨h, t, h1, h2⟩ := sp_cons c l [b]
      rw [Lib.count_cons_ne b c l e, sp, if_neg e, List.nil_append, h2]
      exact splitK_ne e _ l h t (ih.trans h1)
/-- The texts between the bytes c. -/
def parts (c : UInt8) (s : ByteArray) : List ByteArray := (sp c [] s.data.toList).map fun l => ⟨l.toArray⟩
theorem map_data (l : List ByteArray) : (l.map (·.data.toList)).map (fun l => (⟨l.toArray⟩ : ByteArray)) = l := by
  rw [List.map_map]
  conv => rhs; rw [← List.map_id l]
  apply List.map_congr_left
  intro a _
  simp
theorem parts_lib (c : UInt8) (s : ByteArray) : Lib.splitB ⟨#[c]⟩ 0 (Lib.countB s ⟨#[c]⟩) s = parts c s := by
  rw [← map_data (Lib.splitB _ _ _ _), Lib.splitB_data, parts, ← splitK_sp]
  try rfl
theorem parts_len (c : UInt8) (s : ByteArray) : (parts c s).length = Lib.countB s ⟨#[c]⟩ + 1 := by
  rw [← parts_lib]
  exact Lib.splitB_all ⟨#[c]⟩ (Nat.le_refl 1) 0 _ s rfl
theorem parts_len_le (c : UInt8) (s : ByteArray) : (parts c s).length ≤ s.size + 1 := by
  rw [parts_len]
  have := Lib.countB_le ⟨#[c]⟩ (Nat.le_refl 1) _ s (Nat.le_refl _)
  omega
/-- What stands ahead of the first byte c. -/
def preL (c : UInt8) : List UInt8 → List UInt8
  | [] => []
  | b :: l => if b = c then [] else b :: preL c l
theorem sp_head (c : UInt8) : ∀ l cur, ∃ t, sp c cur l = (cur ++ preL c l) :: t
  | [], cur => ⟨[], by simp [sp, preL]⟩
  | b :: l, cur => by
    by_cases e : b = c
    · exact ⟨sp c [] l, by rw [sp, if_pos e, preL, if_pos e, List.append_nil]⟩
    · obtain ⟨t, ht⟩ := sp_head c l (cur ++ [b])
      exact ⟨t, by rw [sp, if_neg e, preL, if_neg e, ht]; simp⟩
theorem cut_pre (c : UInt8) : ∀ l : List UInt8, (Lib.cut l [c]).1 = preL c l
  | [] => rfl
  | b :: l => by
    have ih := cut_pre c l
    unfold Lib.cut at ih ⊢
    by_cases e : b = c
    · subst e
      rw [index_cons_eq]
      simp [preL]
    · rw [index_cons_ne l e, preL, if_neg e]
      have hg := Lib.index_ge l [c]
      by_cases q : Lib.index l [c] = -1
      · rw [q] at ih ⊢
        simp at ih ⊢
        exact ih
      · have q1 : (Lib.index l [c] == -1) = false := by rw [beq_eq_false_iff_ne]; exact q
        obtain ⟨i, hi⟩ := Int.eq_ofNat_of_zero_le (show 0 ≤ Lib.index l [c] by omega)
        rw [hi] at q1 ih ⊢
        rw [q1]
        simp only [Bool.false_eq_true, if_false]
        rw [if_pos (by omega)] at ih ⊢
        simp only [Int.toNat_natCast] at ih
        have t1 : ((i : Int) + 1).toNat = i + 1 := by omega
        rw [t1, List.take_succ_cons]
        exact congrArg (b :: ·) ih
theorem pre_has (c : UInt8) : ∀ l : List UInt8, Lib.indexByte (preL c l) c = -1
  | [] => rfl
  | b :: l => by
    by_cases e : b = c
    · rw [preL, if_pos e]; rfl
    · rw [preL, if_neg e, Lib.indexByte, pre_has c l]
      have : (b == c) = false := by rw [beq_eq_false_iff_ne]; exact e
      rw [this]
      rfl
theorem pre_len (c : UInt8) : ∀ l : List UInt8, (preL c l).length ≤ l.length
  | [] => Nat.le_refl _
  | b :: l => by
    rw [preL]
    split
    · simp
    · have := pre_len c l
      simp; omega
def preB (c : UInt8) (s : ByteArray) : ByteArray := ⟨(preL c s.data.toList).toArray⟩
theorem preB_size (c : UInt8) (s : ByteArray) : (preB c s).size ≤ s.size := by
  have := pre_len c s.data.toList
  show (preL c s.data.toList).toArray.size ≤ s.data.size
  simpa using this
theorem parts_head (c : UInt8) (s : ByteArray) : ∃ t, parts c s = preB c s :: t := by
  obtain ⟨t, ht⟩ := sp_head c s.data.toList []
  exact ⟨t.map fun l => ⟨l.toArray⟩, by unfold parts; rw [ht]; rfl⟩
end Go.Proofs.YthjfnfhadgmglaaDoor
