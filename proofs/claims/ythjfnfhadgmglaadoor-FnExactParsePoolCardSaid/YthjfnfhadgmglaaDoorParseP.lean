/- Plain: what the text of a pool says. -/
import Derived.Test.YthjfnfhadgmglaaDoorReadP
import Derived.Test.YthjfnfhadgmglaaDoorSplitP
import Derived.Test.YthjfnfhadgmglaaDoorPoolU
import Derived.Test.YthjfnfhadgmglaaDoorArrs
set_option linter.unusedVariables false
set_option linter.unusedSimpArgs false
set_option linter.unusedSectionVars false
namespace Go.Proofs.YthjfnfhadgmglaaDoor
theorem join_sp (c : UInt8) : ∀ (l cur : List UInt8), Lib.join (sp c cur l) [c] = cur ++ l
  | [], cur => by rw [sp, Lib.join_one, List.append_nil]
  | b :: l, cur => by
    by_cases e : b = c
    · subst e
      rw [sp, if_pos rfl]
      have ih := join_sp b l []
      obtain ⟨h, t, h1, _⟩ := sp_cons b l []
      rw [h1] at ih ⊢
      rw [Lib.join_cons] at ih
      rw [Lib.join_cons]
      have : Lib.joinTail [b] (h :: t) = [b] ++ (h ++ Lib.joinTail [b] t) := by simp [Lib.joinTail]
      rw [this, ih]
      simp
    · rw [sp, if_neg e, join_sp c l (cur ++ [b])]
      simp
theorem txts_atS (L : List ByteArray) : txts (atS L) L.length = L := by
  unfold txts atS
  apply List.ext_getElem
  · simp
  · intro i h1 h2
    simp [h2]
theorem join_parts (c : UInt8) (s : ByteArray) : jn (atS (parts c s)) ⟨#[c]⟩ (parts c s).length = s := by
  rw [← jn_bytes, txts_atS]
  have e : (parts c s).map (·.data.toList) = sp c [] s.data.toList := by
    unfold parts
    rw [List.map_map]
    conv => rhs; rw [← List.map_id (sp c [] s.data.toList)]
    apply List.map_congr_left
    intro a _
    simp
  rw [e]
  have := join_sp c s.data.toList []
  apply ByteArray.ext
  simp only [this]
  simp
theorem jnM_congr {x y : Nat → ByteArray} {sep : ByteArray} : ∀ {n : Nat}, (∀ i, i < n → x i = y i) → jnM x sep n = jnM y sep n
  | 0, _ => rfl
  | n + 1, h => by simp only [jnM]; rw [jnM_congr (fun i hi => h i (by omega)), h n (by omega)]
theorem jn_congr {x y : Nat → ByteArray} {sep : ByteArray} {n : Nat} (h : ∀ i, i < n → x i = y i) : jn x sep n = jn y sep n := by
  cases n with
  | zero => rfl
  | succ n => simp only [jn]; rw [jnM_congr (fun i hi => h i (by omega)), h n (by omega)]
/-- The faces that a word tells. -/
noncomputable def fd (t : ByteArray) (j : Nat) : Int := rdV (atS (parts 46 t) j)
noncomputable def okT (t : ByteArray) : Bool := decide ((parts 46 t).length = 6) && allB (fun j => rdB (atS (parts 46 t) j)) 6
noncomputable def okD (t : ByteArray) : Bool := okT t && dieB (fd t)
def wd (s : ByteArray) (i : Nat) : ByteArray := atS (parts 32 s) i
def wN (s : ByteArray) : Nat := (parts 32 s).length
noncomputable def ppB (s : ByteArray) : Bool := decide (wN s ≤ 4) && allB (fun i => okD (wd s i)) (wN s)
noncomputable def ppN (s : ByteArray) : Nat := if ppB s then wN s else 0
noncomputable def ppF (s : ByteArray) (p : Nat) : Int := fd (wd s (p / 6)) (p % 6)
theorem ppF_at (s : ByteArray) {i j : Nat} (hj : j < 6) : ppF s (i * 6 + j) = fd (wd s i) j := by
  unfold ppF
  rw [show (i * 6 + j) / 6 = i by omega, show (i * 6 + j) % 6 = j by omega]
theorem okT_len {t : ByteArray} (h : okT t = true) : (parts 46 t).length = 6 := by
  unfold okT at h
  simp only [Bool.and_eq_true, decide_eq_true_eq] at h
  exact h.1
theorem okT_rd {t : ByteArray} (h : okT t = true) {j : Nat} (hj : j < 6) : rdB (atS (parts 46 t) j) = true := by
  unfold okT at h
  simp only [Bool.and_eq_true] at h
  exact (allB_iff _ _).1 h.2 j hj
theorem dieT_fd {t : ByteArray} (h : okT t = true) : dieT (fd t) = t := by
  conv => rhs; rw [← join_parts 46 t, okT_len h]
  unfold dieT
  apply jn_congr
  intro i hi
  exact (rd_get (okT_rd h hi)).2.2
theorem wN_pos (s : ByteArray) : 1 ≤ wN s := by
  unfold wN
  rw [parts_len]
  omega
theorem poolT_fd {s : ByteArray} (h : ∀ i, i < wN s → okT (wd s i) = true) : poolT (wN s) (fun i => fd (wd s i)) = s := by
  conv => rhs; rw [← join_parts 32 s]
  unfold poolT
  apply jn_congr
  intro i hi
  exact dieT_fd (h i hi)
theorem wd_size (s : ByteArray) {i : Nat} (hi : i < wN s) : (wd s i).size ≤ s.size := by
  have h := jn_size (atS (parts 32 s)) (sep := ⟨#[32]⟩) rfl (parts 32 s).length
  rw [join_parts] at h
  have h2 := szs_mono (atS (parts 32 s)) (show i + 1 ≤ (parts 32 s).length from hi)
  simp only [szs] at h2
  unfold wd
  omega
theorem face_size (t : ByteArray) {i : Nat} (hi : i < (parts 46 t).length) : (atS (parts 46 t) i).size ≤ t.size := by
  have h := jn_size (atS (parts 46 t)) (sep := ⟨#[46]⟩) rfl (parts 46 t).length
  rw [join_parts] at h
  have h2 := szs_mono (atS (parts 46 t)) (show i + 1 ≤ (parts 46 t).length from hi)
  simp only [szs] at h2
  omega
theorem ppN_le (s : ByteArray) : ppN s ≤ 4 := by
  unfold ppN
  split
  · rename_i h
    unfold ppB at h
    simp only [Bool.and_eq_true, decide_eq_true_eq] at h
    exact h.1
  · omega
open Classical in
theorem dieB_congr {d e : Nat → Int} (h : ∀ j, j < 6 → d j = e j) : dieB d = dieB e := by
  unfold dieB
  have : Die d ↔ Die e := by
    unfold Die okAt
    constructor
    · intro hd k hk
      rw [← h k hk]
      exact ⟨(hd k hk).1, fun h0 => by rw [← h (k - 1) (by omega)]; exact (hd k hk).2 h0⟩
    · intro hd k hk
      rw [h k hk]
      exact ⟨(hd k hk).1, fun h0 => by rw [h (k - 1) (by omega)]; exact (hd k hk).2 h0⟩
  by_cases hd : Die d
  · rw [decide_eq_true hd, decide_eq_true (this.1 hd)]
  · rw [decide_eq_false hd, decide_eq_false (fun h' => hd (this.2 h'))]
end Go.Proofs.YthjfnfhadgmglaaDoor
