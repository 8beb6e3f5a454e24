/- ParseInt, both sides. -/
import Derived.Test.YthjfnfhadgmglaaDoorReadQ
import Derived.Test.YthjfnfhadgmglaaDoorStrs
import Derived.Test.YthjfnfhadgmglaaDoorFmtInt
import Derived.Test.YthjfnfhadgmglaaDoorAtoS
import Derived.Lib.IndexBytes
import Derived.Lib.AtoiErrMem
set_option linter.unusedVariables false
set_option linter.unusedSimpArgs false
set_option linter.unusedSectionVars false
namespace Go.Proofs.YthjfnfhadgmglaaDoor
open Go.RowKit
set_option maxRecDepth 100000 in
set_option maxHeartbeats 2000000 in
theorem l1Read_neg (s t : ByteArray) (hs : s.size ≤ 1048576) (h1 : 1 < s.size) (h2 : (s[0]'(by omega)).toNat = 45) (hte : (s.extract 1 s.size) = t) (hT : Tl s t true) (w : World) : Calls Tryd.prog 44 #[.string s] w fun e w' => e = .returned (.tuple #[.int .i64 (rdV s), .bool (rdB s)]) ∧ ∃ m, w' = w.drewN m := by
  have HT := Lib.hid hT; clear hT
  have HS := Lib.hid (show t.size + 1 = s.size by
    rcases HT.out with ⟨_, _, h⟩ | ⟨h, _⟩
    · have := congrArg List.length h
      simp at this
      have e1 : s.data.size = s.size := rfl
      have e2 : t.data.size = t.size := rfl
      omega
    · cases h)
  have d1 : decide ((1 : Int) < (s.size : Int)) = true := by simp; omega
  have d2 : (((s[0]'(by omega)).toNat : Int) == 45) = true := by simp [h2]
  have dl : decide (t.size < s.size) = true := by have := HS.out; simp; omega
  by_cases hl : 1 ≤ t.size ∧ t.size ≤ 6
  · have HL := Lib.hid hl
    have hz6 : t.size ≤ 6 := hl.2
    have dq : (decide ((1 : Int) ≤ (t.size : Int)) && decide ((t.size : Int) ≤ 6)) = true := by rw [decide_eq_true (show (1 : Int) ≤ (t.size : Int) by omega), decide_eq_true (show (t.size : Int) ≤ 6 by omega)]; rfl
    have DQ := Lib.hid dq
    clear dq hl
    go_enter Tryd.func44, Tryd.ntmps44
    go_wp2_with fail
    go_at_call 32
    refine (inS_any _ _ _ _).mono ?_
    rintro e w' ⟨rfl, rfl⟩
    rw [DQ.out]
    go_wp2
    go_loopw [5, 6] (fun v i wr => ∃ k n : Nat, k ≤ t.size ∧ i = .int .i64 (k : Int) ∧ v = .int .i64 (n : Int) ∧ Hid (Lib.decFrom 0 (t.data.toList.take k) = some n) ∧ w = wr) (fun v i _ => t.size - (intOf i).toNat)
    case atStart => exact ⟨0, 0, by omega, rfl, rfl, (show Lib.decFrom 0 [] = some 0 from rfl), rfl⟩
    case round =>
      obtain ⟨k, n, hk, rfl, rfl, HD, rfl⟩ := hrel
      have hn : n ≤ 999999 := dec_bd HD.out (k := k) (by simp; omega) (by have := HL.out; omega)
      by_cases hlt : k < t.size
      · have d3 : decide ((k : Int) < (t.size : Int)) = true := by simp; omega
        by_cases hb : 48 ≤ (t[k]'hlt).toNat
        · have d4 : decide (((t[k]'hlt).toNat : Int) < 48) = false := by simp; omega
          by_cases hc : (t[k]'hlt).toNat ≤ 57
          · have d5 : decide ((57 : Int) < ((t[k]'hlt).toNat : Int)) = false := by simp; omega
            obtain ⟨d, hd⟩ : ∃ d, d = (t[k]'hlt).toNat - 48 := ⟨_, rfl⟩
            have HX := Lib.hid (dec_next hlt HD.out (d := d) (by omega) (by omega))
            have w1 : ((t[k]'hlt).toNat : Int) - 48 = (d : Int) := by omega
            have hd9 : d ≤ 9 := by omega
            clear hd hb hc
            go_wp2
            go_roundw
            case rel => exact ⟨k + 1, 10 * n + d, by omega, by go_num, by go_num, HX.out, trivial⟩
            case measure => simp [intOf]; omega
          · have d5 : decide ((57 : Int) < ((t[k]'hlt).toNat : Int)) = true := by simp; omega
            have HX := Lib.hid (tl_byte HT.out hlt (by omega))
            clear hb hc
            go_wp2
            go_ret2
            exact ⟨by rw [HX.out.1, HX.out.2]; rfl, 0, rfl⟩
        · have d4 : decide (((t[k]'hlt).toNat : Int) < 48) = true := by simp; omega
          have HX := Lib.hid (tl_byte HT.out hlt (by omega))
          clear hb
          go_wp2
          go_ret2
          exact ⟨by rw [HX.out.1, HX.out.2]; rfl, 0, rfl⟩
      · have d3 : decide ((k : Int) < (t.size : Int)) = false := by simp; omega
        have hd : Lib.decFrom 0 t.data.toList = some n := by have := HD.out; rw [List.take_of_length_le (by simp; have e2 : t.data.size = t.size := rfl; omega)] at this; exact this
        have HE := Lib.hid (tl_end HT.out hn hd)
        obtain ⟨v, hv⟩ : ∃ v, v = (⟨(Lib.itoa (sgn true n)).toArray⟩ : ByteArray) := ⟨_, rfl⟩
        have HN := Lib.hid (fun w => num_any (sgn true n) (by unfold sgn; split <;> omega) w)
        rw [← hv] at HE HN
        have SG := Lib.hid (show sgn true n = -(n : Int) from rfl)
        rw [SG.out] at HN HE
        clear hv hd
        by_cases he : v = s
        · have HX := Lib.hid (HE.out.1 he)
          have e1 : (v.toList == s.toList) = true := by rw [he]; simp
          clear he
          go_wp2_with fail
          go_at_call 33
          with_reducible refine (HN.out _).mono ?_
          rintro e w' ⟨rfl, m, rfl⟩
          go_wp2
          go_ret2
          exact ⟨by rw [HX.out.1, HX.out.2]; rfl, m, rfl⟩
        · have HX := Lib.hid (HE.out.2 he)
          have e1 := str_ne he
          clear he
          go_wp2_with fail
          go_at_call 33
          with_reducible refine (HN.out _).mono ?_
          rintro e w' ⟨rfl, m, rfl⟩
          go_wp2
          go_ret2
          exact ⟨by rw [HX.out.1, HX.out.2]; rfl, m, rfl⟩
  · have HX := Lib.hid (tl_len HT.out hl)
    have dq : (decide ((1 : Int) ≤ (t.size : Int)) && decide ((t.size : Int) ≤ 6)) = false := by simp only [Bool.and_eq_false_iff, decide_eq_false_iff_not]; omega
    have DQ := Lib.hid dq
    clear dq hl
    go_enter Tryd.func44, Tryd.ntmps44
    go_wp2_with fail
    go_at_call 32
    refine (inS_any _ _ _ _).mono ?_
    rintro e w' ⟨rfl, rfl⟩
    rw [DQ.out]
    go_wp2
    go_ret2
    exact ⟨by rw [HX.out.1, HX.out.2]; rfl, 0, rfl⟩
set_option maxRecDepth 100000 in
set_option maxHeartbeats 2000000 in
theorem l1Read_pos (s t : ByteArray) (hs : s.size ≤ 1048576) (h2 : ¬ (1 < s.size ∧ s.data.toList[0]? = some 45)) (hte : s = t) (hT : Tl s t false) (w : World) : Calls Tryd.prog 44 #[.string s] w fun e w' => e = .returned (.tuple #[.int .i64 (rdV s), .bool (rdB s)]) ∧ ∃ m, w' = w.drewN m := by
  have HT := Lib.hid hT; clear hT
  subst hte
  have dl : decide ((s.size : Int) < (s.size : Int)) = false := by simp
  by_cases hq : 1 < s.size
  · have d1 : decide ((1 : Int) < (s.size : Int)) = true := by simp; omega
    have d2 : (((s[0]'(by omega)).toNat : Int) == 45) = false := by
      rw [beq_eq_false_iff_ne]
      intro e
      apply h2
      refine ⟨hq, ?_⟩
      rw [List.getElem?_eq_getElem (by simp; have e2 : s.data.size = s.size := rfl; omega)]
      exact congrArg some (UInt8.toNat_inj.1 (show (s[0]'(by omega)).toNat = 45 by omega))
    clear h2
    by_cases hl : 1 ≤ s.size ∧ s.size ≤ 6
    · have HL := Lib.hid hl
      have hz6 : s.size ≤ 6 := hl.2
      have dq : (decide ((1 : Int) ≤ (s.size : Int)) && decide ((s.size : Int) ≤ 6)) = true := by rw [decide_eq_true (show (1 : Int) ≤ (s.size : Int) by omega), decide_eq_true (show (s.size : Int) ≤ 6 by omega)]; rfl
      have DQ := Lib.hid dq
      clear dq hl
      go_enter Tryd.func44, Tryd.ntmps44
      go_wp2_with fail
      go_at_call 32
      refine (inS_any _ _ _ _).mono ?_
      rintro e w' ⟨rfl, rfl⟩
      rw [DQ.out]
      go_wp2
      go_loopw [5, 6] (fun v i wr => ∃ k n : Nat, k ≤ s.size ∧ i = .int .i64 (k : Int) ∧ v = .int .i64 (n : Int) ∧ Hid (Lib.decFrom 0 (s.data.toList.take k) = some n) ∧ w = wr) (fun v i _ => s.size - (intOf i).toNat)
      case atStart => exact ⟨0, 0, by omega, rfl, rfl, (show Lib.decFrom 0 [] = some 0 from rfl), rfl⟩
      case round =>
        obtain ⟨k, n, hk, rfl, rfl, HD, rfl⟩ := hrel
        have hn : n ≤ 999999 := dec_bd HD.out (k := k) (by simp; omega) (by have := HL.out; omega)
        by_cases hlt : k < s.size
        · have d3 : decide ((k : Int) < (s.size : Int)) = true := by simp; omega
          by_cases hb : 48 ≤ (s[k]'hlt).toNat
          · have d4 : decide (((s[k]'hlt).toNat : Int) < 48) = false := by simp; omega
            by_cases hc : (s[k]'hlt).toNat ≤ 57
            · have d5 : decide ((57 : Int) < ((s[k]'hlt).toNat : Int)) = false := by simp; omega
              obtain ⟨d, hd⟩ : ∃ d, d = (s[k]'hlt).toNat - 48 := ⟨_, rfl⟩
              have HX := Lib.hid (dec_next hlt HD.out (d := d) (by omega) (by omega))
              have w1 : ((s[k]'hlt).toNat : Int) - 48 = (d : Int) := by omega
              have hd9 : d ≤ 9 := by omega
              clear hd hb hc
              go_wp2
              go_roundw
              case rel => exact ⟨k + 1, 10 * n + d, by omega, by go_num, by go_num, HX.out, trivial⟩
              case measure => simp [intOf]; omega
            · have d5 : decide ((57 : Int) < ((s[k]'hlt).toNat : Int)) = true := by simp; omega
              have HX := Lib.hid (tl_byte HT.out hlt (by omega))
              clear hb hc
              go_wp2
              go_ret2
              exact ⟨by rw [HX.out.1, HX.out.2]; rfl, 0, rfl⟩
          · have d4 : decide (((s[k]'hlt).toNat : Int) < 48) = true := by simp; omega
            have HX := Lib.hid (tl_byte HT.out hlt (by omega))
            clear hb
            go_wp2
            go_ret2
            exact ⟨by rw [HX.out.1, HX.out.2]; rfl, 0, rfl⟩
        · have d3 : decide ((k : Int) < (s.size : Int)) = false := by simp; omega
          have hd : Lib.decFrom 0 s.data.toList = some n := by have := HD.out; rw [List.take_of_length_le (by simp; have e2 : s.data.size = s.size := rfl; omega)] at this; exact this
          have HE := Lib.hid (tl_end HT.out hn hd)
          obtain ⟨v, hv⟩ : ∃ v, v = (⟨(Lib.itoa (sgn false n)).toArray⟩ : ByteArray) := ⟨_, rfl⟩
          have HN := Lib.hid (fun w => num_any (sgn false n) (by unfold sgn; split <;> omega) w)
          rw [← hv] at HE HN
          have SG := Lib.hid (show sgn false n = (n : Int) from rfl)
          rw [SG.out] at HN HE
          clear hv hd
          by_cases he : v = s
          · have HX := Lib.hid (HE.out.1 he)
            have e1 : (v.toList == s.toList) = true := by rw [he]; simp
            clear he
            go_wp2_with fail
            go_at_call 33
            with_reducible refine (HN.out _).mono ?_
            rintro e w' ⟨rfl, m, rfl⟩
            go_wp2
            go_ret2
            exact ⟨by rw [HX.out.1, HX.out.2]; rfl, m, rfl⟩
          · have HX := Lib.hid (HE.out.2 he)
            have e1 := str_ne he
            clear he
            go_wp2_with fail
            go_at_call 33
            with_reducible refine (HN.out _).mono ?_
            rintro e w' ⟨rfl, m, rfl⟩
            go_wp2
            go_ret2
            exact ⟨by rw [HX.out.1, HX.out.2]; rfl, m, rfl⟩
    · have HX := Lib.hid (tl_len HT.out hl)
      have dq : (decide ((1 : Int) ≤ (s.size : Int)) && decide ((s.size : Int) ≤ 6)) = false := by simp only [Bool.and_eq_false_iff, decide_eq_false_iff_not]; omega
      have DQ := Lib.hid dq
      clear dq hl
      go_enter Tryd.func44, Tryd.ntmps44
      go_wp2_with fail
      go_at_call 32
      refine (inS_any _ _ _ _).mono ?_
      rintro e w' ⟨rfl, rfl⟩
      rw [DQ.out]
      go_wp2
      go_ret2
      exact ⟨by rw [HX.out.1, HX.out.2]; rfl, 0, rfl⟩
  · have d1 : decide ((1 : Int) < (s.size : Int)) = false := by simp; omega
    clear h2
    by_cases hl : 1 ≤ s.size ∧ s.size ≤ 6
    · have HL := Lib.hid hl
      have hz6 : s.size ≤ 6 := hl.2
      have dq : (decide ((1 : Int) ≤ (s.size : Int)) && decide ((s.size : Int) ≤ 6)) = true := by rw [decide_eq_true (show (1 : Int) ≤ (s.size : Int) by omega), decide_eq_true (show (s.size : Int) ≤ 6 by omega)]; rfl
      have DQ := Lib.hid dq
      clear dq hl
      go_enter Tryd.func44, Tryd.ntmps44
      go_wp2_with fail
      go_at_call 32
      refine (inS_any _ _ _ _).mono ?_
      rintro e w' ⟨rfl, rfl⟩
      rw [DQ.out]
      go_wp2
      go_loopw [5, 6] (fun v i wr => ∃ k n : Nat, k ≤ s.size ∧ i = .int .i64 (k : Int) ∧ v = .int .i64 (n : Int) ∧ Hid (Lib.decFrom 0 (s.data.toList.take k) = some n) ∧ w = wr) (fun v i _ => s.size - (intOf i).toNat)
      case atStart => exact ⟨0, 0, by omega, rfl, rfl, (show Lib.decFrom 0 [] = some 0 from rfl), rfl⟩
      case round =>
        obtain ⟨k, n, hk, rfl, rfl, HD, rfl⟩ := hrel
        have hn : n ≤ 999999 := dec_bd HD.out (k := k) (by simp; omega) (by have := HL.out; omega)
        by_cases hlt : k < s.size
        · have d3 : decide ((k : Int) < (s.size : Int)) = true := by simp; omega
          by_cases hb : 48 ≤ (s[k]'hlt).toNat
          · have d4 : decide (((s[k]'hlt).toNat : Int) < 48) = false := by simp; omega
            by_cases hc : (s[k]'hlt).toNat ≤ 57
            · have d5 : decide ((57 : Int) < ((s[k]'hlt).toNat : Int)) = false := by simp; omega
              obtain ⟨d, hd⟩ : ∃ d, d = (s[k]'hlt).toNat - 48 := ⟨_, rfl⟩
              have HX := Lib.hid (dec_next hlt HD.out (d := d) (by omega) (by omega))
              have w1 : ((s[k]'hlt).toNat : Int) - 48 = (d : Int) := by omega
              have hd9 : d ≤ 9 := by omega
              clear hd hb hc
              go_wp2
              go_roundw
              case rel => exact ⟨k + 1, 10 * n + d, by omega, by go_num, by go_num, HX.out, trivial⟩
              case measure => simp [intOf]; omega
            · have d5 : decide ((57 : Int) < ((s[k]'hlt).toNat : Int)) = true := by simp; omega
              have HX := Lib.hid (tl_byte HT.out hlt (by omega))
              clear hb hc
              go_wp2
              go_ret2
              exact ⟨by rw [HX.out.1, HX.out.2]; rfl, 0, rfl⟩
          · have d4 : decide (((s[k]'hlt).toNat : Int) < 48) = true := by simp; omega
            have HX := Lib.hid (tl_byte HT.out hlt (by omega))
            clear hb
            go_wp2
            go_ret2
            exact ⟨by rw [HX.out.1, HX.out.2]; rfl, 0, rfl⟩
        · have d3 : decide ((k : Int) < (s.size : Int)) = false := by simp; omega
          have hd : Lib.decFrom 0 s.data.toList = some n := by have := HD.out; rw [List.take_of_length_le (by simp; have e2 : s.data.size = s.size := rfl; omega)] at this; exact this
          have HE := Lib.hid (tl_end HT.out hn hd)
          obtain ⟨v, hv⟩ : ∃ v, v = (⟨(Lib.itoa (sgn false n)).toArray⟩ : ByteArray) := ⟨_, rfl⟩
          have HN := Lib.hid (fun w => num_any (sgn false n) (by unfold sgn; split <;> omega) w)
          rw [← hv] at HE HN
          have SG := Lib.hid (show sgn false n = (n : Int) from rfl)
          rw [SG.out] at HN HE
          clear hv hd
          by_cases he : v = s
          · have HX := Lib.hid (HE.out.1 he)
            have e1 : (v.toList == s.toList) = true := by rw [he]; simp
            clear he
            go_wp2_with fail
            go_at_call 33
            with_reducible refine (HN.out _).mono ?_
            rintro e w' ⟨rfl, m, rfl⟩
            go_wp2
            go_ret2
            exact ⟨by rw [HX.out.1, HX.out.2]; rfl, m, rfl⟩
          · have HX := Lib.hid (HE.out.2 he)
            have e1 := str_ne he
            clear he
            go_wp2_with fail
            go_at_call 33
            with_reducible refine (HN.out _).mono ?_
            rintro e w' ⟨rfl, m, rfl⟩
            go_wp2
            go_ret2
            exact ⟨by rw [HX.out.1, HX.out.2]; rfl, m, rfl⟩
    · have HX := Lib.hid (tl_len HT.out hl)
      have dq : (decide ((1 : Int) ≤ (s.size : Int)) && decide ((s.size : Int) ≤ 6)) = false := by simp only [Bool.and_eq_false_iff, decide_eq_false_iff_not]; omega
      have DQ := Lib.hid dq
      clear dq hl
      go_enter Tryd.func44, Tryd.ntmps44
      go_wp2_with fail
      go_at_call 32
      refine (inS_any _ _ _ _).mono ?_
      rintro e w' ⟨rfl, rfl⟩
      rw [DQ.out]
      go_wp2
      go_ret2
      exact ⟨by rw [HX.out.1, HX.out.2]; rfl, 0, rfl⟩
theorem l1Read_any (s : ByteArray) (hs : s.size ≤ 1048576) (w : World) : Calls Tryd.prog 44 #[.string s] w fun e w' => e = .returned (.tuple #[.int .i64 (rdV s), .bool (rdB s)]) ∧ ∃ m, w' = w.drewN m := by
  by_cases h : 1 < s.size ∧ s.data.toList[0]? = some 45
  · obtain ⟨h1, h2⟩ := h
    have h3 : s[0]'(by omega) = (45 : UInt8) := by
      rw [List.getElem?_eq_getElem (by simp; have e2 : s.data.size = s.size := rfl; omega)] at h2
      exact Option.some.inj h2
    refine l1Read_neg s (s.extract 1 s.size) hs h1 (by rw [h3]; rfl) rfl (.inl ⟨rfl, h1, ?_⟩) w
    rw [Lib.extract_to_end]
    have e2 : s.data.size = s.size := rfl
    cases hl : s.data.toList with
    | nil => rw [hl] at h2; cases h2
    | cons a r => rw [hl] at h2; simp at h2; subst h2; rfl
  · exact l1Read_pos s s hs h rfl (.inr ⟨rfl, rfl, h⟩) w
theorem sParseInt_any (s : ByteArray) (hs : s.size ≤ 1048576) (w : World) : Calls Tryd.prog 21 #[.string s] w fun e w' => e = .returned (.tuple #[.int .i64 (rdV s), .bool (rdB s)]) ∧ ∃ m, w' = w.drewN m := by
  have HL := Lib.hid (fun w => l1Read_any s hs w)
  go_enter Tryd.func21, Tryd.ntmps21
  go_wp2_with fail
  go_at_call 44
  refine (HL.out _).mono ?_
  rintro e w' ⟨rfl, m, rfl⟩
  go_wp2
  go_ret2
  exact ⟨rfl, m, rfl⟩
/-- What the library's variables say: the table of powers, the two errors. -/
structure AtoiVars (w : World) : Prop where
  tab : Lib.TabIs Tryd.prog w "internal/strconv.uint64pow10" .u64 Lib.pow10Tab
  syn : ∃ tp p, w.var? Tryd.prog "strconv.ErrSyntax" = some #[.iface tp p]
  rng : ∃ tp p, w.var? Tryd.prog "strconv.ErrRange" = some #[.iface tp p]
theorem gTab : Tryd.prog.globalNamed "internal/strconv.uint64pow10" = some 3 := by kernel_rfl
theorem gSyn : Tryd.prog.globalNamed "strconv.ErrSyntax" = some 1 := by kernel_rfl
theorem gRng : Tryd.prog.globalNamed "strconv.ErrRange" = some 2 := by kernel_rfl
theorem AtoiVars.below {w w' : World} (h : AtoiVars w) (hb : Below w.heap.size w w') : AtoiVars w' where
  tab := var_keep gTab h.tab hb
  syn := by obtain ⟨tp, p, h1⟩ := h.syn; exact ⟨tp, p, var_keep gSyn h1 hb⟩
  rng := by obtain ⟨tp, p, h1⟩ := h.rng; exact ⟨tp, p, var_keep gRng h1 hb⟩
set_option maxHeartbeats 1000000 in
theorem iParseInt_any (s : ByteArray) (hs : s.size ≤ 1048576) (w : World) (hv : AtoiVars w) : Calls Tryd.prog 22 #[.string s] w fun e w' => e = .returned (.tuple #[.int .i64 (rdV s), .bool (rdB s)]) ∧ Below w.heap.size w w' := by
  have HV := Lib.hid hv; clear hv
  by_cases hsn : (∀ v, Lib.atoiAll s.data.toList ≠ .ok v) ∧ Lib.atoiAll s.data.toList ≠ .range
  · have HX := Lib.hid (rd_no (s := s) (fun ⟨v, hv⟩ => hsn.1 _ (atoi_dec hv)))
    obtain ⟨tp, p, hsy⟩ := HV.out.syn
    have HSY := Lib.hid hsy
    have HA := Lib.hid hsn
    clear hsy hsn
    go_enter Tryd.func22, Tryd.ntmps22
    go_wp2_with fail
    go_at_call 45
    refine (Tryd.strconv_Atoi_syntax_var s (by omega) HA.out tp p _ HSY.out).mono ?_
    rintro e w1 ⟨N, rfl, _, _, hb⟩
    have HB := Lib.hid hb; clear hb
    go_wp2
    go_ret2
    exact ⟨by rw [HX.out.1, HX.out.2]; rfl, HB.out⟩
  cases ha : Lib.atoiAll s.data.toList with
  | range =>
    have HX := Lib.hid (rd_no (s := s) (fun ⟨v, hv⟩ => by rw [atoi_dec hv] at ha; cases ha))
    obtain ⟨tp, p, hsy⟩ := HV.out.rng
    have HSY := Lib.hid hsy
    have HA := Lib.hid ha
    clear hsy ha hsn
    go_enter Tryd.func22, Tryd.ntmps22
    go_wp2_with fail
    go_at_call 45
    refine (Tryd.strconv_Atoi_range_var s (by omega) HA.out tp p _ HSY.out).mono ?_
    rintro e w1 ⟨N, rfl, _, _, hb⟩
    have HB := Lib.hid hb; clear hb
    go_wp2
    go_ret2
    exact ⟨by rw [HX.out.1, HX.out.2]; rfl, HB.out⟩
  | ok v =>
    clear hsn
    have HA := Lib.hid ha
    have HG := Lib.hid (fun w => Tryd.strconv_Atoi_ok s (by omega) v ha w)
    cases gd : decB v
    · have HX := Lib.hid (rd_no (s := s) (fun ⟨u, hu⟩ => by
        have e := (atoi_dec hu).symm.trans ha
        injection e with e
        subst e
        unfold decB at gd
        rw [decide_eq_true hu.1, decide_eq_true hu.2.1] at gd
        cases gd))
      have GD := Lib.hid gd
      clear ha gd
      go_enter Tryd.func22, Tryd.ntmps22
      go_wp2_with fail
      go_at_call 45
      refine (HG.out _).mono ?_
      rintro e w1 ⟨rfl, hb⟩
      have HB := Lib.hid (show Below w.heap.size w w1 by rcases hb with rfl | ⟨t, rfl⟩ <;> first | exact Below.refl _ _ | exact Lib.bytesWorld_below _ _ _)
      clear hb
      go_wp2_with fail
      go_at_call 34
      refine (isDecimal_any _ _).mono ?_
      rintro e w2 ⟨rfl, rfl⟩
      rw [GD.out]
      go_wp2
      go_ret2
      exact ⟨by rw [HX.out.1, HX.out.2]; rfl, HB.out⟩
    · have hbd := decB_bd gd
      obtain ⟨z, hz⟩ : ∃ z, z = (⟨(Lib.itoa v).toArray⟩ : ByteArray) := ⟨_, rfl⟩
      have HIT := Lib.hid (fun w h => Tryd.strconv_Itoa v (by omega) (by omega) w h)
      rw [← hz] at HIT
      have HQ := Lib.hid (show (z = s → rdV s = v ∧ rdB s = true) ∧ (z ≠ s → rdV s = 0 ∧ rdB s = false) from
        ⟨fun e => rd_yes ⟨hbd.1, hbd.2, hz ▸ e⟩, fun e => rd_no (fun ⟨u, hu⟩ => by
          have e2 := (atoi_dec hu).symm.trans ha
          injection e2 with e2
          subst e2
          exact e (hz.trans hu.2.2))⟩)
      have GD := Lib.hid gd
      clear ha gd hz
      by_cases he : z = s
      · have HX := Lib.hid (HQ.out.1 he)
        have e1 : (z.toList == s.toList) = true := by rw [he]; simp
        clear he
        go_enter Tryd.func22, Tryd.ntmps22
        go_wp2_with fail
        go_at_call 45
        refine (HG.out _).mono ?_
        rintro e w1 ⟨rfl, hb⟩
        have HB := Lib.hid (show Below w.heap.size w w1 by rcases hb with rfl | ⟨t, rfl⟩ <;> first | exact Below.refl _ _ | exact Lib.bytesWorld_below _ _ _)
        clear hb
        go_wp2_with fail
        go_at_call 34
        refine (isDecimal_any _ _).mono ?_
        rintro e w2 ⟨rfl, rfl⟩
        rw [GD.out]
        go_wp2_with fail
        go_at_call 35
        refine (HIT.out _ (HV.out.below HB.out).tab).mono ?_
        rintro e w3 ⟨rfl, k, os, rfl⟩
        go_wp2
        go_ret2
        exact ⟨by rw [HX.out.1, HX.out.2]; rfl, HB.out.trans ((Lib.below_grow _ _ (Nat.le_refl _) _ _).mono HB.out.size)⟩
      · have HX := Lib.hid (HQ.out.2 he)
        have e1 := str_ne he
        clear he
        go_enter Tryd.func22, Tryd.ntmps22
        go_wp2_with fail
        go_at_call 45
        refine (HG.out _).mono ?_
        rintro e w1 ⟨rfl, hb⟩
        have HB := Lib.hid (show Below w.heap.size w w1 by rcases hb with rfl | ⟨t, rfl⟩ <;> first | exact Below.refl _ _ | exact Lib.bytesWorld_below _ _ _)
        clear hb
        go_wp2_with fail
        go_at_call 34
        refine (isDecimal_any _ _).mono ?_
        rintro e w2 ⟨rfl, rfl⟩
        rw [GD.out]
        go_wp2_with fail
        go_at_call 35
        refine (HIT.out _ (HV.out.below HB.out).tab).mono ?_
        rintro e w3 ⟨rfl, k, os, rfl⟩
        go_wp2
        go_ret2
        exact ⟨by rw [HX.out.1, HX.out.2]; rfl, HB.out.trans ((Lib.below_grow _ _ (Nat.le_refl _) _ _).mono HB.out.size)⟩
  | _ => exact absurd ⟨fun v h => (by rw [ha] at h; cases h), fun h => (by rw [ha] at h; cases h)⟩ hsn
end Go.Proofs.YthjfnfhadgmglaaDoor
