/- RingsOf$1, the closure that goes on with a path: what it appends to the captured slice. Written by gen_rgg.py. -/
import Derived.Test.YtbfhfadfjgfmaaaRings
set_option linter.unusedVariables false
set_option linter.unusedSimpArgs false
set_option linter.unusedSectionVars false
namespace Go.Proofs.Ytbfhfadfjgfmaaa
open Go.RowKit
abbrev growV (R O G : Nat) : Value := .func (.func 67) #[] #[.pointer (some ⟨R, 0, none⟩), .pointer (some ⟨O, 0, none⟩), .pointer (some ⟨G, 0, none⟩)]
/-- What a call of grow leaves: the box O holds a slice of the rows Ls. -/
def GrowR (n B O : Nat) (Ls : List (List Nat)) (W0 w' : World) : Prop := ∃ A mm c ad, Blk w' O 1 47 (fun _ => .slice A mm c) ∧ GridL w' B A mm c ad Ls ∧ Step B O W0 w'
theorem ints_cell {w : World} {B m c g : Nat} {f : Nat → Int} (h : Ints w B (some ⟨g, 0, none⟩) m c f) {k : Nat} (hk : k < m) : w.cell? ⟨g, k, none⟩ = some (.int .i64 (f k)) := by
  obtain ⟨g2, e, _, _, hc⟩ := h.cell hk
  have e := Option.some.inj e
  rw [show (⟨g, k, none⟩ : Addr) = ⟨g2, k, none⟩ by injection e with e; rw [e]]
  exact hc
set_option maxRecDepth 100000 in
set_option maxHeartbeats 8000000 in
theorem grow_any (x : Nat → Nat → Int) (n c : Nat) (o : Option Addr) (n6 : n ≤ 6) (R O G B : Nat) (hRO : R ≠ O) (hGO : G ≠ O) (hR : R < B) (hO : O < B) (hG : G < B) (hPo : ∀ a, o = some a → a.block ≠ O ∧ a.block < B) :
    ∀ (d : Nat) (p : List Nat) (m : Nat), p.length = m → Path n p → Chain (Bt x) p → n + 1 ≤ m + d →
    ∀ (acc : List (List Nat)) (mm : Nat) (w : World) (A : Option Addr) (cA : Nat) (ad : Nat → Option Addr × Nat) (po : Option Addr) (cp : Nat), (acc ++ ringsI n (Bt x) d p).length ≤ 1000 → B ≤ w.heap.size →
      w.cell? ⟨R, 0, none⟩ = some (poolV o n c) → PoolAt w o n x → w.cell? ⟨G, 0, none⟩ = some (growV R O G) → Blk w O 1 47 (fun _ => .slice A mm cA) → GridL w B A mm cA ad acc → Ints w B po m cp (lF p) → (∀ i, i < mm → (rowSl ad (gLen acc) i).ownBlock = none ∨ (rowSl ad (gLen acc) i).ownBlock ≠ Value.ownBlock (.slice po m cp)) →
      Calls Try.prog 67 #[.slice po m cp, .pointer (some ⟨R, 0, none⟩), .pointer (some ⟨O, 0, none⟩), .pointer (some ⟨G, 0, none⟩)] w fun e w' => e = .returned (.tuple #[]) ∧ GrowR n B O (acc ++ ringsI n (Bt x) d p) w w' := by
  intro d
  induction d with
  | zero =>
    intro p m hm hp _ hd
    have := hp.len
    omega
  | succ d ih =>
    intro p m hm hp hch hd acc mm w A cA ad po cp htot hBw cR hP cG hOb hGr hI hsep
    have m6 : m ≤ 6 := by have := hp.len; omega
    have m1 : 1 ≤ m := by have := hp.pos; omega
    obtain ⟨gp, hgp, _, _, c0⟩ := hI.cell (k := 0) (by omega)
    subst hgp
    obtain ⟨h0, hh0⟩ : ∃ h0, h0 = qF p 0 := ⟨_, rfl⟩
    have h0n : h0 < n := hh0 ▸ hp.at (by omega)
    have HH0 := Lib.hid (show h0 + 1 = p.headD 0 + 1 by rw [head_at, hh0])
    have HH1 := Lib.hid hh0
    obtain ⟨l, hl⟩ : ∃ l, l = qF p (m - 1) := ⟨_, rfl⟩
    have HLN := Lib.hid (show l < n from hl ▸ hp.at (by omega))
    have HL := Lib.hid hl
    obtain ⟨l1, hl1⟩ : ∃ l1, l1 = m - 1 := ⟨_, rfl⟩
    have HL1 := Lib.hid (show l1 = m - 1 ∧ l1 < m by omega)
    have HM := Lib.hid hm
    have PT := Lib.hid hp; have CH := Lib.hid hch
    have HRO := Lib.hid hRO; have HGO := Lib.hid hGO; have HRB := Lib.hid hR; have HOB := Lib.hid hO; have HGB := Lib.hid hG; have HPO := Lib.hid hPo
    have BW := Lib.hid hBw; have CR0 := Lib.hid cR; have P0 := Lib.hid hP; have CG0 := Lib.hid cG; have OB0 := Lib.hid hOb; have GR0 := Lib.hid hGr; have IP0 := Lib.hid hI; have SP0 := Lib.hid hsep
    have HT := Lib.hid htot
    have hr := ring_chain hch hp.pos
    rw [hm] at hr
    have RA := fun w h hI => isRingQ_any o n c x n6 (qF p) m m6 (fun i hi => hp.at (by omega)) (some ⟨gp, 0, none⟩) cp B w h hI
    rw [hr] at RA
    have EQ := Lib.hid (show ringsI n (Bt x) (d + 1) p = (if Bt x (p.getLastD 0) (p.headD 0) && decide (3 ≤ m) then [p] else []) ++ upTo (Bt x) p (fun j => ringsI n (Bt x) d (p ++ [j])) n by rw [← hm]; rfl)
    clear hh0 hl hl1 hm hp hch cG hP hOb hGr hI hsep htot hr hRO hGO hR hO hG hPo hBw c0
    have cH := show w.cell? ⟨gp, 0, none⟩ = some (.int .i64 (h0 : Int)) by rw [ints_cell IP0.out (by omega)]; unfold lF; rw [HH1.out]
    cases gr : (Bt x (p.getLastD 0) (p.headD 0) && decide (3 ≤ m))
    · rw [gr] at RA EQ
      have RA := Lib.hid RA
      clear gr
      obtain ⟨accL, haccL⟩ : ∃ accL, accL = acc := ⟨_, rfl⟩
      have EQL := Lib.hid (show accL ++ upTo (Bt x) p (fun j => ringsI n (Bt x) d (p ++ [j])) n = acc ++ ringsI n (Bt x) (d + 1) p by rw [EQ.out, haccL]; rfl)
      have TOT := Lib.hid (show (accL ++ upTo (Bt x) p (fun j => ringsI n (Bt x) d (p ++ [j])) n).length ≤ 1000 by rw [EQL.out]; exact HT.out)
      have HACC := Lib.hid haccL
      clear haccL
      go_enter Try.func67, Try.ntmps67
      go_wp2_with fail
      go_at_call 68
      refine (RA.out _ P0.out IP0.out).mono ?_
      rintro e w3 ⟨rfl, hb3⟩
      have c3h := (Below.cell hb3 (World.block_lt_of_cell? _ _ cH)).trans cH
      have ST3 := Lib.hid (show Step B O w w3 from Step.of_below hb3)
      obtain ⟨A3, m3, c3, ad3, O3, G3⟩ : ∃ A3 m3 c3 ad3, Blk w3 O 1 47 (fun _ => .slice A3 m3 c3) ∧ GridL w3 B A3 m3 c3 ad3 accL := ⟨A, mm, cA, ad, OB0.out.below hb3 OB0.out.lt, by rw [HACC.out]; exact GR0.out.below hb3⟩
      have OB3 := Lib.hid O3; have GR3 := Lib.hid G3
      clear hb3 O3 G3 cR cH
      go_wp2
      go_loopw [5] (fun i wr => ∃ k : Nat, h0 + 1 ≤ k ∧ k ≤ n ∧ i = .int .i64 (k : Int) ∧ (∃ A mm c ad, Blk wr O 1 47 (fun _ => .slice A mm c) ∧ GridL wr B A mm c ad (accL ++ upTo (Bt x) p (fun j => ringsI n (Bt x) d (p ++ [j])) k)) ∧ Step B O w wr) (fun i _ => n - (intOf i).toNat)
      case atStart => exact ⟨h0 + 1, by omega, by omega, by go_num, ⟨A3, m3, c3, ad3, OB3.out, by rw [upTo_start HH0.out, List.append_nil]; exact GR3.out⟩, ST3.out⟩
      case round =>
        obtain ⟨k, hk0, hk, rfl, ⟨A4, m4, c4, ad4, hO4, hG4⟩, hS4⟩ := hrel
        have O4 := Lib.hid hO4; have G4 := Lib.hid hG4; have ST4 := Lib.hid hS4
        clear hO4 hG4 hS4 OB3 GR3 ST3
        have cR := ST4.out.cell CR0.out HRO.out HRB.out
        have P4 := Lib.hid (ST4.out.pool P0.out HPO.out)
        have CG4 := Lib.hid (ST4.out.cell CG0.out HGO.out HGB.out)
        have IP4 := Lib.hid (ST4.out.ints IP0.out HOB.out)
        by_cases hlt : k < n
        · have d0 : decide (k < n) = true := by simp; omega
          have CT := fun w h => containsQ_any (qF p) m k (by omega) (by omega) (some ⟨gp, 0, none⟩) cp B w h
          obtain ⟨a1, rfl, hd⟩ := dice6 P4.out hlt
          have HD := Lib.hid hd; clear hd
          have CR4 := Lib.hid cR
          cases hc : allB (notAt (qF p) k) m
          · rw [hc] at CT
            have CT := Lib.hid CT
            have HC := Lib.hid (show nextC (Bt x) p k = false from nextC_has (by rw [HM.out]; exact hc))
            clear hc
            go_wp2
            refine wp_region_grown_lit (by kernel_rfl) (by kernel_rfl) ?_
            repeat (first | go_big_quiet_skip | (go_big_quiet_want; (first | (go_big_quiet_op; (first | go_big_quiet_on | (refine ⟨_, fun _ _ => rfl, ?_⟩; go_big_quiet_on) | (apply Exists.intro; refine ⟨fun _ hC => ?_, ?_⟩; (first | (go_at_call 69; exact grown_same hC (CT.out _ (IP4.out.below hC.below)))); go_big_quiet_on))))))
            refine wpQuiet_nil ?_
            intro wg hg
            have ST5 := Lib.hid (ST4.out.trans (Step.of_below hg.below))
            have O5 := Lib.hid (O4.out.below hg.below O4.out.lt)
            have G5 := Lib.hid (G4.out.below hg.below)
            clear hg
            go_wp2
            go_roundw
            case rel => exact ⟨k + 1, by omega, by omega, by go_num, ⟨A4, m4, c4, ad4, O5.out, by rw [upTo_no HC.out]; exact G5.out⟩, ST5.out⟩
            case measure => simp [intOf]; omega
          · rw [hc] at CT
            have CT := Lib.hid CT
            have HN := Lib.hid (show nextC (Bt x) p k = Bt x l k by rw [nextC_free (by rw [HM.out]; exact hc) (by rw [← HH1.out]; omega), HM.out, ← HL.out])
            have hP := beatI_pos (x l) (x k)
            have CL4 := Lib.hid (show wr.cell? ⟨gp, l1, none⟩ = some (.int .i64 (l : Int)) by rw [ints_cell IP4.out (HL1.out.2)]; unfold lF; rw [HL.out, HL1.out.1])
            clear hc
            have e1 : (m : Int) - 1 = (l1 : Int) := by have := HL1.out; omega
            have LN := HLN.out
            cases gb : beatB (x l) (x k)
            · have d2 : decide (0 < beatI (x l) (x k)) = false := by rw [hP, gb]
              have HC := Lib.hid (show nextC (Bt x) p k = false by rw [HN.out]; exact gb)
              clear hP gb
              go_wp2
              refine wp_region_grown_lit (by kernel_rfl) (by kernel_rfl) ?_
              repeat (first | go_big_quiet_skip | (go_big_quiet_want; (first | (refine grown_load_int 22 _ rfl rfl (CR4.out) Try.isAgg22 ?_; simp only [Act.put, List.setIfInBounds_toArray, List.set_cons_succ, List.set_cons_zero]; go_big_quiet_on) | (refine grown_load_int 3 _ rfl rfl (CL4.out) Try.isAgg3 ?_; simp only [Act.put, List.setIfInBounds_toArray, List.set_cons_succ, List.set_cons_zero]; go_big_quiet_on) | (refine grown_load_pool _ rfl (HD.out) rfl ?_ ?_; omega; simp only [Act.put, List.setIfInBounds_toArray, List.set_cons_succ, List.set_cons_zero]; go_big_quiet_on) | (go_big_quiet_op; (first | go_big_quiet_on | (refine ⟨_, fun _ _ => rfl, ?_⟩; go_big_quiet_on) | (apply Exists.intro; refine ⟨fun _ hC => ?_, ?_⟩; (first | (go_at_call 70; exact grown_of hC (beats_any _ _ _)) | (go_at_call 69; exact grown_same hC (CT.out _ (IP4.out.below hC.below)))); go_big_quiet_on))))))
              refine wpQuiet_nil ?_
              intro wg hg
              have ST5 := Lib.hid (ST4.out.trans (Step.of_below hg.below))
              have O5 := Lib.hid (O4.out.below hg.below O4.out.lt)
              have G5 := Lib.hid (G4.out.below hg.below)
              clear hg e1
              go_wp2
              go_roundw
              case rel => exact ⟨k + 1, by omega, by omega, by go_num, ⟨A4, m4, c4, ad4, O5.out, by rw [upTo_no HC.out]; exact G5.out⟩, ST5.out⟩
              case measure => simp [intOf]; omega
            · have d2 : decide (0 < beatI (x l) (x k)) = true := by rw [hP, gb]
              have HC := Lib.hid (show nextC (Bt x) p k = true by rw [HN.out]; exact gb)
              clear hP gb
              go_wp2
              refine wp_region_grown_lit (by kernel_rfl) (by kernel_rfl) ?_
              repeat (first | go_big_quiet_skip | (go_big_quiet_want; (first | (refine grown_load_int 22 _ rfl rfl (CR4.out) Try.isAgg22 ?_; simp only [Act.put, List.setIfInBounds_toArray, List.set_cons_succ, List.set_cons_zero]; go_big_quiet_on) | (refine grown_load_int 3 _ rfl rfl (CL4.out) Try.isAgg3 ?_; simp only [Act.put, List.setIfInBounds_toArray, List.set_cons_succ, List.set_cons_zero]; go_big_quiet_on) | (refine grown_load_pool _ rfl (HD.out) rfl ?_ ?_; omega; simp only [Act.put, List.setIfInBounds_toArray, List.set_cons_succ, List.set_cons_zero]; go_big_quiet_on) | (go_big_quiet_op; (first | go_big_quiet_on | (refine ⟨_, fun _ _ => rfl, ?_⟩; go_big_quiet_on) | (apply Exists.intro; refine ⟨fun _ hC => ?_, ?_⟩; (first | (go_at_call 70; exact grown_of hC (beats_any _ _ _)) | (go_at_call 69; exact grown_same hC (CT.out _ (IP4.out.below hC.below)))); go_big_quiet_on))))))
              refine wpQuiet_nil ?_
              intro wg hg
              obtain ⟨W0, rfl⟩ : ∃ W0 : World, W0 = wg := ⟨_, rfl⟩
              have ST5 := Lib.hid (ST4.out.trans (Step.of_below hg.below))
              have O5 := Lib.hid (O4.out.below hg.below O4.out.lt)
              have G5 := Lib.hid (G4.out.below hg.below)
              have CR5 := Lib.hid (Below.cell hg.below (World.block_lt_of_cell? _ _ CR4.out) |>.trans CR4.out)
              have CG5 := Lib.hid (Below.cell hg.below (World.block_lt_of_cell? _ _ CG4.out) |>.trans CG4.out)
              have P5 := Lib.hid (P4.out.below hg.below)
              have IP5 := Lib.hid (IP4.out.below hg.below)
              have BW5 := Lib.hid (show B ≤ W0.heap.size by have := BW.out; have := ST5.out.size; omega)
              clear hg e1 cR P4 CG4 IP4 O4 G4 ST4 CR4 CL4 HD
              have HK := Lib.hid (nextC_mem hlt HC.out)
              have HLT := Lib.hid (fun j (hj : j < m) => show lF p j = lF (p ++ [k]) j by unfold lF; rw [show (p ++ [k]).getD j 0 = p.getD j 0 from qF_left (by rw [HM.out]; exact hj)])
              have HAT := Lib.hid (show lF (p ++ [k]) m = (k : Int) by unfold lF; rw [← HM.out, show (p ++ [k]).getD p.length 0 = k from qF_last p k])
              have HM1 := Lib.hid (show m ≤ 1000000 by omega)
              obtain ⟨Lk, hLk⟩ : ∃ Lk, Lk = accL ++ upTo (Bt x) p (fun j => ringsI n (Bt x) d (p ++ [j])) k ++ ringsI n (Bt x) d (p ++ [k]) := ⟨_, rfl⟩
              have HLk := Lib.hid hLk.symm; clear hLk
              have IH := Lib.hid (fun (wv : World) (hG : Grew W0 wv) (dd : Option Addr) (cdd : Nat) (hI : Ints wv W0.heap.size dd (m + 1) cdd (lF (p ++ [k]))) => ih (p ++ [k]) (m + 1) (by simp [HM.out]) (PT.out.next HK.out) (CH.out.next PT.out.ne HK.out) (by omega) (accL ++ upTo (Bt x) p (fun j => ringsI n (Bt x) d (p ++ [j])) k) m4 wv A4 c4 ad4 dd cdd (by rw [List.append_assoc, ← upTo_yes (f := fun j => ringsI n (Bt x) d (p ++ [j])) HC.out, List.length_append]; have := TOT.out; rw [List.length_append] at this; have := upTo_len (B := Bt x) (p := p) (f := fun j => ringsI n (Bt x) d (p ++ [j])) (k := k + 1) n (by omega); omega) (Nat.le_trans BW5.out hG.below.size) (Below.cell hG.below (World.block_lt_of_cell? _ _ CR5.out) |>.trans CR5.out) (P5.out.below hG.below) (Below.cell hG.below (World.block_lt_of_cell? _ _ CG5.out) |>.trans CG5.out) (O5.out.below hG.below O5.out.lt) (G5.out.below hG.below) (hI.base BW5.out) (fun i hi => by
                cases e : (rowSl ad4 (gLen (accL ++ upTo (Bt x) p (fun j => ringsI n (Bt x) d (p ++ [j])) k)) i).ownBlock with
                | none => exact .inl rfl
                | some g => exact .inr fun e2 => by have := (G5.out.2.lt hi e).2; have := (World.ownsRow.lt hI g e2.symm).1; omega))
              have IH := Lib.hid (fun (wv : World) (hG : Grew W0 wv) (dd : Option Addr) (cdd : Nat) (hI : Ints wv W0.heap.size dd (m + 1) cdd (lF (p ++ [k]))) => (IH.out wv hG dd cdd hI).mono fun e w' ⟨he, A', mm', c', ad', h1, h2, h3⟩ => show e = Ending.returned (.tuple #[]) ∧ GrowR n B O Lk W0 w' from ⟨he, A', mm', c', ad', h1, HLk.out ▸ h2, (Step.of_below hG.below).trans h3⟩)
              go_wp2
              refine wp_region_steps (by kernel_rfl) (by kernel_rfl) (fun q : RGs => [(0, 44, growV R O G), (1, 45, .slice (some ⟨gp, 0, none⟩) m cp), (2, 46, .slice q.a m q.ca), (3, 47, .int .i64 (k : Int)), (4, 48, .slice (some ⟨q.b, 0, none⟩) 1 1), (5, 49, .slice q.d (m + 1) q.cd), (6, 50, .tuple #[])]) (RG6 W0 m k (lF (p ++ [k])) (GrowR n B O Lk W0)) ⟨none, 0, 0, none, 0⟩ (RG6.init _) ?_ ?_
              · refine (And.intro (fun s q wv hW hs hp => ?_) (And.intro (fun s q wv hW hs hp => ?_) (And.intro (fun s q wv hW hs hp => ?_) (And.intro (fun s q wv hW hs hp => ?_) (And.intro (fun s q wv hW hs hp => ?_) (And.intro (fun s q wv hW hs hp => ?_) (And.intro (fun s q wv hW hs hp => ?_) True.intro)))))))
                · have S6 : s 6 = false := hW.no6 hs (by decide); (try simp [waits, Region.binds, hs] at hp); (first | simp only [frm, List.foldl, Act.put, List.setIfInBounds_toArray, List.set_cons_succ, List.set_cons_zero, hs, hp, S6, cond_true, cond_false] | simp only [frm, List.foldl, Act.put, List.setIfInBounds_toArray, List.set_cons_succ, List.set_cons_zero, hs, S6, cond_true, cond_false]); have HW := Lib.hid hW; clear hW; have c0 := Below.cell (HW.out.grew S6).below (World.block_lt_of_cell? _ _ CG5.out) |>.trans CG5.out; go_wp2; refine ⟨q, by (first | simp [frm, Act.put, upd, hs, hp, S6] | simp [frm, Act.put, upd, hs, S6]), HW.out.keep S6 (by decide)⟩
                · have S6 : s 6 = false := hW.no6 hs (by decide); (try simp [waits, Region.binds, hs] at hp); (first | simp only [frm, List.foldl, Act.put, List.setIfInBounds_toArray, List.set_cons_succ, List.set_cons_zero, hs, hp, S6, cond_true, cond_false] | simp only [frm, List.foldl, Act.put, List.setIfInBounds_toArray, List.set_cons_succ, List.set_cons_zero, hs, S6, cond_true, cond_false]); have HW := Lib.hid hW; clear hW; go_wp2; refine ⟨q, by (first | simp [frm, Act.put, upd, hs, hp, S6] | simp [frm, Act.put, upd, hs, S6]), HW.out.keep S6 (by decide)⟩
                · have S6 : s 6 = false := hW.no6 hs (by decide); (try simp [waits, Region.binds, hs] at hp); (first | simp only [frm, List.foldl, Act.put, List.setIfInBounds_toArray, List.set_cons_succ, List.set_cons_zero, hs, hp, S6, cond_true, cond_false] | simp only [frm, List.foldl, Act.put, List.setIfInBounds_toArray, List.set_cons_succ, List.set_cons_zero, hs, S6, cond_true, cond_false]); have HW := Lib.hid hW; clear hW; have S1 : s 1 = true := (by simp [hp]); go_wp2_with fail; go_at_call 71; refine (clone_any ⟨gp, 0, none⟩ m cp (lF p) (by omega) _ (fun j hj => by rw [addr_add, Nat.zero_add]; exact ints_cell (IP5.out.below (HW.out.grew S6).below) hj)).mono ?_; rintro e' w2 ⟨o2, c2, rfl, hI2, hb2⟩; have HI2 := Lib.hid hI2; have HB2 := Lib.hid hb2; clear hI2 hb2; go_wp2; refine ⟨{ q with a := o2, ca := c2 }, by (first | simp [frm, Act.put, upd, hs, hp, S6] | simp [frm, Act.put, upd, hs, S6]), HW.out.own S6 S1 HB2.out (HI2.out.congr (fun j hj => HLT.out j hj))⟩
                · have S6 : s 6 = false := hW.no6 hs (by decide); (try simp [waits, Region.binds, hs] at hp); (first | simp only [frm, List.foldl, Act.put, List.setIfInBounds_toArray, List.set_cons_succ, List.set_cons_zero, hs, hp, S6, cond_true, cond_false] | simp only [frm, List.foldl, Act.put, List.setIfInBounds_toArray, List.set_cons_succ, List.set_cons_zero, hs, S6, cond_true, cond_false]); have HW := Lib.hid hW; clear hW; go_wp2; refine ⟨q, by (first | simp [frm, Act.put, upd, hs, hp, S6] | simp [frm, Act.put, upd, hs, S6]), HW.out.keep S6 (by decide)⟩
                · have S6 : s 6 = false := hW.no6 hs (by decide); (try simp [waits, Region.binds, hs] at hp); (first | simp only [frm, List.foldl, Act.put, List.setIfInBounds_toArray, List.set_cons_succ, List.set_cons_zero, hs, hp, S6, cond_true, cond_false] | simp only [frm, List.foldl, Act.put, List.setIfInBounds_toArray, List.set_cons_succ, List.set_cons_zero, hs, S6, cond_true, cond_false]); have HW := Lib.hid hW; clear hW; have S3 : s 3 = true := (by simp [hp]); go_wp2; refine ⟨{ q with b := wv.heap.size }, by (first | simp [frm, Act.put, upd, hs, hp, S6] | simp [frm, Act.put, upd, hs, S6]), HW.out.box S6 S3⟩
                · have S6 : s 6 = false := hW.no6 hs (by decide); (try simp [waits, Region.binds, hs] at hp); (first | simp only [frm, List.foldl, Act.put, List.setIfInBounds_toArray, List.set_cons_succ, List.set_cons_zero, hs, hp, S6, cond_true, cond_false] | simp only [frm, List.foldl, Act.put, List.setIfInBounds_toArray, List.set_cons_succ, List.set_cons_zero, hs, S6, cond_true, cond_false]); have HW := Lib.hid hW; clear hW; have S2 : s 2 = true := (by simp [hp]); have S4 : s 4 = true := (by simp [hp]); ((with_reducible apply (wpList_append_int (f := lF (p ++ [k])))); (case hgd => rfl); (case ho => rfl); (case hs => rfl); (case hx => rfl); (case hS => exact Try.underlying60); (case hown => exact HW.out.2.2.1 S2 hs); (case hz => exact HW.out.2.2.2.1 S4 hs); (case hf => exact HAT.out); (case hm => exact HM1.out); (case hB => exact (HW.out.grew S6).below.size); intro A2 c2 w2 hI2 hg2); have HI2 := Lib.hid hI2; have HG2 := Lib.hid hg2; clear hI2 hg2; go_wp2; refine ⟨{ q with d := A2, cd := c2 }, by (first | simp [frm, Act.put, upd, hs, hp, S6] | simp [frm, Act.put, upd, hs, S6]), HW.out.app S6 S2 S4 hs HI2.out HG2.out⟩
                · (try simp [waits, Region.binds, hs] at hp); (first | simp only [frm, List.foldl, Act.put, List.setIfInBounds_toArray, List.set_cons_succ, List.set_cons_zero, hs, hp, cond_true, cond_false] | simp only [frm, List.foldl, Act.put, List.setIfInBounds_toArray, List.set_cons_succ, List.set_cons_zero, hs, cond_true, cond_false]); have HW := Lib.hid hW; clear hW; have S0 : s 0 = true := (by simp [hp]); have S5 : s 5 = true := (by simp [hp]); go_wp2_with fail; go_at_call 67; refine (IH.out _ (HW.out.grew hs) q.d q.cd (HW.out.2.2.2.2.1 S5 hs)).mono ?_; rintro e' w2 ⟨rfl, hR⟩; have HR := Lib.hid hR; clear hR; go_wp2; refine ⟨q, by (first | simp [frm, Act.put, upd, hs, hp] | simp [frm, Act.put, upd, hs]), HW.out.call S0 S5 HR.out⟩
              · intro s q wg hW hall
                have hs := fun i (hi : i < 7) => hall i (by simpa using hi)
                simp only [frm, List.foldl, Act.put, List.setIfInBounds_toArray, List.set_cons_succ, List.set_cons_zero, hs 0 (by omega), hs 1 (by omega), hs 2 (by omega), hs 3 (by omega), hs 4 (by omega), hs 5 (by omega), hs 6 (by omega), cond_true]
                have HR := Lib.hid (hW.2.2.2.2.2 (hs 6 (by omega)))
                clear hW hs hall
                obtain ⟨qa, qca, qb, qd, qcd⟩ := q
                simp only
                go_wp2
                go_roundw
                case rel =>
                  obtain ⟨A7, m7, c7, ad7, hO7, hG7, hS7⟩ := HR.out
                  exact ⟨k + 1, by omega, by omega, by go_num, ⟨A7, m7, c7, ad7, hO7, by rw [upTo_yes HC.out, ← List.append_assoc, HLk.out]; exact hG7⟩, ST5.out.trans hS7⟩
                case measure => simp [intOf]; omega
        · have d0 : decide (k < n) = false := by simp; omega
          have HK := Lib.hid (show k = n by omega)
          go_wp2
          go_end0
          exact ⟨rfl, A4, m4, c4, ad4, O4.out, by have e := congrArg (fun t => upTo (Bt x) p (fun j => ringsI n (Bt x) d (p ++ [j])) t) HK.out; rw [← EQL.out, ← e]; exact G4.out, ST4.out⟩
    · rw [gr] at RA EQ
      have RA := Lib.hid RA
      clear gr
      obtain ⟨accL, haccL⟩ : ∃ accL, accL = acc ++ [p] := ⟨_, rfl⟩
      have EQL := Lib.hid (show accL ++ upTo (Bt x) p (fun j => ringsI n (Bt x) d (p ++ [j])) n = acc ++ ringsI n (Bt x) (d + 1) p by rw [EQ.out, haccL, List.append_assoc]; rfl)
      have TOT := Lib.hid (show (accL ++ upTo (Bt x) p (fun j => ringsI n (Bt x) d (p ++ [j])) n).length ≤ 1000 by rw [EQL.out]; exact HT.out)
      have MB := Lib.hid (show mm ≤ 1000000 by have := HT.out; have := GR0.out.1; simp only [List.length_append] at *; omega)
      have HACC := Lib.hid haccL
      clear haccL
      go_enter Try.func67, Try.ntmps67
      go_wp2_with fail
      go_at_call 68
      refine (RA.out _ P0.out IP0.out).mono ?_
      rintro e w1 ⟨rfl, hb1⟩
      have c1h := (Below.cell hb1 (World.block_lt_of_cell? _ _ cH)).trans cH
      have HB1 := Lib.hid hb1
      have O1 := Lib.hid (OB0.out.below hb1 OB0.out.lt)
      have c1o : w1.cell? ⟨O, 0, none⟩ = some (.slice A mm cA) := O1.out.cell (by omega)
      have AL := Lib.hid (show Below w1.heap.size w1 (w1.alloc (.cells #[.slice (some ⟨gp, 0, none⟩) m cp] 60)) from (Below.refl _ _).alloc (Nat.le_refl _) _)
      have Z1 := Lib.hid (show (w1.alloc (.cells #[.slice (some ⟨gp, 0, none⟩) m cp] 60)).cell? ⟨w1.heap.size, 0, none⟩ = some (.slice (some ⟨gp, 0, none⟩) m cp) by simp)
      have G2 := Lib.hid ((GR0.out.below hb1).below AL.out)
      have I2 := Lib.hid ((IP0.out.below hb1).below AL.out)
      have O2 := Lib.hid (O1.out.below AL.out O1.out.lt)
      have Z3 := Lib.hid (show B ≤ (w1.alloc (.cells #[.slice (some ⟨gp, 0, none⟩) m cp] 60)).heap.size by have := BW.out; have := hb1.size; simp; omega)
      clear hb1 cR cH
      go_wp2_with (first | (((with_reducible apply wpList_append_gl); (case hgd => rfl); (case ho => rfl); (case hs => rfl); (case hx => rfl); (case hS => exact Try.underlying47); (case hgrid => exact G2.out); (case hz => exact Z1.out); (case hn => exact HM.out); (case hrow => exact I2.out); (case hsep => exact SP0.out); (case hm => exact MB.out); (case hB => exact Z3.out); intro A3 c3 w2 ad3 hG3 hg3 _; have hO3 := O2.out.grown hg3 (fun e => by have := (G2.out.2.outer_lt e.symm).1; have := HOB.out; omega); have c2o : w2.cell? ⟨O, 0, none⟩ = some (.slice A mm cA) := hO3.cell (by omega); have f2o : w2.frozen? ⟨O, 0, none⟩ = false := hO3.free _; have S2 := Lib.hid ((((Step.of_below HB1.out).trans (Step.of_below AL.out)).trans (Step.of_grown G2.out hg3)) : Step B O w w2); have c2h := (S2.out.trans (Step.set (.slice A3 (mm + 1) c3))).ints IP0.out HOB.out |> fun h => show (w2.setCell ⟨O, 0, none⟩ (.slice A3 (mm + 1) c3)).cell? ⟨gp, 0, none⟩ = some (.int .i64 (h0 : Int)) by rw [ints_cell h (by omega)]; unfold lF; rw [HH1.out])) | fail)
      have O3 := Lib.hid hO3; have G3 := Lib.hid hG3
      clear hO3 hG3 hg3 c2o f2o c1o c1h c2h
      generalize hW3 : w2.setCell ⟨O, 0, none⟩ (.slice A3 (mm + 1) c3) = w3
      have OB3 := O3.out.set (i := 0) (by omega) (.slice A3 (mm + 1) c3)
      rw [hW3] at OB3
      have OB3 := Lib.hid (OB3.ext (g := fun _ => .slice A3 (mm + 1) c3) (fun i hi => by simp only [upd]; rw [if_pos (by omega)]))
      have ST3 := Lib.hid (show Step B O w w3 from hW3 ▸ S2.out.trans (Step.set _))
      have GR3 := Lib.hid (show GridL w3 B A3 (mm + 1) c3 ad3 accL from by rw [HACC.out]; exact (Step.set (B := B) (O := O) (w := w2) (.slice A3 (mm + 1) c3) |>.grid G3.out HOB.out fun g e => heap_setCell_other w2 ⟨O, 0, none⟩ g _ (fun e2 => by have := (G3.out.2.outer_lt e).1; have := HOB.out; simp only at e2; omega)) |> fun h => hW3 ▸ h)
      clear hW3 O3 G3 S2
      obtain ⟨m3, hm3⟩ : ∃ m3, m3 = mm + 1 := ⟨_, rfl⟩
      rw [← hm3] at OB3 GR3
      clear hm3
      go_loopw [5] (fun i wr => ∃ k : Nat, h0 + 1 ≤ k ∧ k ≤ n ∧ i = .int .i64 (k : Int) ∧ (∃ A mm c ad, Blk wr O 1 47 (fun _ => .slice A mm c) ∧ GridL wr B A mm c ad (accL ++ upTo (Bt x) p (fun j => ringsI n (Bt x) d (p ++ [j])) k)) ∧ Step B O w wr) (fun i _ => n - (intOf i).toNat)
      case atStart => exact ⟨h0 + 1, by omega, by omega, by go_num, ⟨A3, m3, c3, ad3, OB3.out, by rw [upTo_start HH0.out, List.append_nil]; exact GR3.out⟩, ST3.out⟩
      case round =>
        obtain ⟨k, hk0, hk, rfl, ⟨A4, m4, c4, ad4, hO4, hG4⟩, hS4⟩ := hrel
        have O4 := Lib.hid hO4; have G4 := Lib.hid hG4; have ST4 := Lib.hid hS4
        clear hO4 hG4 hS4 OB3 GR3 ST3
        have cR := ST4.out.cell CR0.out HRO.out HRB.out
        have P4 := Lib.hid (ST4.out.pool P0.out HPO.out)
        have CG4 := Lib.hid (ST4.out.cell CG0.out HGO.out HGB.out)
        have IP4 := Lib.hid (ST4.out.ints IP0.out HOB.out)
        by_cases hlt : k < n
        · have d0 : decide (k < n) = true := by simp; omega
          have CT := fun w h => containsQ_any (qF p) m k (by omega) (by omega) (some ⟨gp, 0, none⟩) cp B w h
          obtain ⟨a1, rfl, hd⟩ := dice6 P4.out hlt
          have HD := Lib.hid hd; clear hd
          have CR4 := Lib.hid cR
          cases hc : allB (notAt (qF p) k) m
          · rw [hc] at CT
            have CT := Lib.hid CT
            have HC := Lib.hid (show nextC (Bt x) p k = false from nextC_has (by rw [HM.out]; exact hc))
            clear hc
            go_wp2
            refine wp_region_grown_lit (by kernel_rfl) (by kernel_rfl) ?_
            repeat (first | go_big_quiet_skip | (go_big_quiet_want; (first | (go_big_quiet_op; (first | go_big_quiet_on | (refine ⟨_, fun _ _ => rfl, ?_⟩; go_big_quiet_on) | (apply Exists.intro; refine ⟨fun _ hC => ?_, ?_⟩; (first | (go_at_call 69; exact grown_same hC (CT.out _ (IP4.out.below hC.below)))); go_big_quiet_on))))))
            refine wpQuiet_nil ?_
            intro wg hg
            have ST5 := Lib.hid (ST4.out.trans (Step.of_below hg.below))
            have O5 := Lib.hid (O4.out.below hg.below O4.out.lt)
            have G5 := Lib.hid (G4.out.below hg.below)
            clear hg
            go_wp2
            go_roundw
            case rel => exact ⟨k + 1, by omega, by omega, by go_num, ⟨A4, m4, c4, ad4, O5.out, by rw [upTo_no HC.out]; exact G5.out⟩, ST5.out⟩
            case measure => simp [intOf]; omega
          · rw [hc] at CT
            have CT := Lib.hid CT
            have HN := Lib.hid (show nextC (Bt x) p k = Bt x l k by rw [nextC_free (by rw [HM.out]; exact hc) (by rw [← HH1.out]; omega), HM.out, ← HL.out])
            have hP := beatI_pos (x l) (x k)
            have CL4 := Lib.hid (show wr.cell? ⟨gp, l1, none⟩ = some (.int .i64 (l : Int)) by rw [ints_cell IP4.out (HL1.out.2)]; unfold lF; rw [HL.out, HL1.out.1])
            clear hc
            have e1 : (m : Int) - 1 = (l1 : Int) := by have := HL1.out; omega
            have LN := HLN.out
            cases gb : beatB (x l) (x k)
            · have d2 : decide (0 < beatI (x l) (x k)) = false := by rw [hP, gb]
              have HC := Lib.hid (show nextC (Bt x) p k = false by rw [HN.out]; exact gb)
              clear hP gb
              go_wp2
              refine wp_region_grown_lit (by kernel_rfl) (by kernel_rfl) ?_
              repeat (first | go_big_quiet_skip | (go_big_quiet_want; (first | (refine grown_load_int 22 _ rfl rfl (CR4.out) Try.isAgg22 ?_; simp only [Act.put, List.setIfInBounds_toArray, List.set_cons_succ, List.set_cons_zero]; go_big_quiet_on) | (refine grown_load_int 3 _ rfl rfl (CL4.out) Try.isAgg3 ?_; simp only [Act.put, List.setIfInBounds_toArray, List.set_cons_succ, List.set_cons_zero]; go_big_quiet_on) | (refine grown_load_pool _ rfl (HD.out) rfl ?_ ?_; omega; simp only [Act.put, List.setIfInBounds_toArray, List.set_cons_succ, List.set_cons_zero]; go_big_quiet_on) | (go_big_quiet_op; (first | go_big_quiet_on | (refine ⟨_, fun _ _ => rfl, ?_⟩; go_big_quiet_on) | (apply Exists.intro; refine ⟨fun _ hC => ?_, ?_⟩; (first | (go_at_call 70; exact grown_of hC (beats_any _ _ _)) | (go_at_call 69; exact grown_same hC (CT.out _ (IP4.out.below hC.below)))); go_big_quiet_on))))))
              refine wpQuiet_nil ?_
              intro wg hg
              have ST5 := Lib.hid (ST4.out.trans (Step.of_below hg.below))
              have O5 := Lib.hid (O4.out.below hg.below O4.out.lt)
              have G5 := Lib.hid (G4.out.below hg.below)
              clear hg e1
              go_wp2
              go_roundw
              case rel => exact ⟨k + 1, by omega, by omega, by go_num, ⟨A4, m4, c4, ad4, O5.out, by rw [upTo_no HC.out]; exact G5.out⟩, ST5.out⟩
              case measure => simp [intOf]; omega
            · have d2 : decide (0 < beatI (x l) (x k)) = true := by rw [hP, gb]
              have HC := Lib.hid (show nextC (Bt x) p k = true by rw [HN.out]; exact gb)
              clear hP gb
              go_wp2
              refine wp_region_grown_lit (by kernel_rfl) (by kernel_rfl) ?_
              repeat (first | go_big_quiet_skip | (go_big_quiet_want; (first | (refine grown_load_int 22 _ rfl rfl (CR4.out) Try.isAgg22 ?_; simp only [Act.put, List.setIfInBounds_toArray, List.set_cons_succ, List.set_cons_zero]; go_big_quiet_on) | (refine grown_load_int 3 _ rfl rfl (CL4.out) Try.isAgg3 ?_; simp only [Act.put, List.setIfInBounds_toArray, List.set_cons_succ, List.set_cons_zero]; go_big_quiet_on) | (refine grown_load_pool _ rfl (HD.out) rfl ?_ ?_; omega; simp only [Act.put, List.setIfInBounds_toArray, List.set_cons_succ, List.set_cons_zero]; go_big_quiet_on) | (go_big_quiet_op; (first | go_big_quiet_on | (refine ⟨_, fun _ _ => rfl, ?_⟩; go_big_quiet_on) | (apply Exists.intro; refine ⟨fun _ hC => ?_, ?_⟩; (first | (go_at_call 70; exact grown_of hC (beats_any _ _ _)) | (go_at_call 69; exact grown_same hC (CT.out _ (IP4.out.below hC.below)))); go_big_quiet_on))))))
              refine wpQuiet_nil ?_
              intro wg hg
              obtain ⟨W0, rfl⟩ : ∃ W0 : World, W0 = wg := ⟨_, rfl⟩
              have ST5 := Lib.hid (ST4.out.trans (Step.of_below hg.below))
              have O5 := Lib.hid (O4.out.below hg.below O4.out.lt)
              have G5 := Lib.hid (G4.out.below hg.below)
              have CR5 := Lib.hid (Below.cell hg.below (World.block_lt_of_cell? _ _ CR4.out) |>.trans CR4.out)
              have CG5 := Lib.hid (Below.cell hg.below (World.block_lt_of_cell? _ _ CG4.out) |>.trans CG4.out)
              have P5 := Lib.hid (P4.out.below hg.below)
              have IP5 := Lib.hid (IP4.out.below hg.below)
              have BW5 := Lib.hid (show B ≤ W0.heap.size by have := BW.out; have := ST5.out.size; omega)
              clear hg e1 cR P4 CG4 IP4 O4 G4 ST4 CR4 CL4 HD
              have HK := Lib.hid (nextC_mem hlt HC.out)
              have HLT := Lib.hid (fun j (hj : j < m) => show lF p j = lF (p ++ [k]) j by unfold lF; rw [show (p ++ [k]).getD j 0 = p.getD j 0 from qF_left (by rw [HM.out]; exact hj)])
              have HAT := Lib.hid (show lF (p ++ [k]) m = (k : Int) by unfold lF; rw [← HM.out, show (p ++ [k]).getD p.length 0 = k from qF_last p k])
              have HM1 := Lib.hid (show m ≤ 1000000 by omega)
              obtain ⟨Lk, hLk⟩ : ∃ Lk, Lk = accL ++ upTo (Bt x) p (fun j => ringsI n (Bt x) d (p ++ [j])) k ++ ringsI n (Bt x) d (p ++ [k]) := ⟨_, rfl⟩
              have HLk := Lib.hid hLk.symm; clear hLk
              have IH := Lib.hid (fun (wv : World) (hG : Grew W0 wv) (dd : Option Addr) (cdd : Nat) (hI : Ints wv W0.heap.size dd (m + 1) cdd (lF (p ++ [k]))) => ih (p ++ [k]) (m + 1) (by simp [HM.out]) (PT.out.next HK.out) (CH.out.next PT.out.ne HK.out) (by omega) (accL ++ upTo (Bt x) p (fun j => ringsI n (Bt x) d (p ++ [j])) k) m4 wv A4 c4 ad4 dd cdd (by rw [List.append_assoc, ← upTo_yes (f := fun j => ringsI n (Bt x) d (p ++ [j])) HC.out, List.length_append]; have := TOT.out; rw [List.length_append] at this; have := upTo_len (B := Bt x) (p := p) (f := fun j => ringsI n (Bt x) d (p ++ [j])) (k := k + 1) n (by omega); omega) (Nat.le_trans BW5.out hG.below.size) (Below.cell hG.below (World.block_lt_of_cell? _ _ CR5.out) |>.trans CR5.out) (P5.out.below hG.below) (Below.cell hG.below (World.block_lt_of_cell? _ _ CG5.out) |>.trans CG5.out) (O5.out.below hG.below O5.out.lt) (G5.out.below hG.below) (hI.base BW5.out) (fun i hi => by
                cases e : (rowSl ad4 (gLen (accL ++ upTo (Bt x) p (fun j => ringsI n (Bt x) d (p ++ [j])) k)) i).ownBlock with
                | none => exact .inl rfl
                | some g => exact .inr fun e2 => by have := (G5.out.2.lt hi e).2; have := (World.ownsRow.lt hI g e2.symm).1; omega))
              have IH := Lib.hid (fun (wv : World) (hG : Grew W0 wv) (dd : Option Addr) (cdd : Nat) (hI : Ints wv W0.heap.size dd (m + 1) cdd (lF (p ++ [k]))) => (IH.out wv hG dd cdd hI).mono fun e w' ⟨he, A', mm', c', ad', h1, h2, h3⟩ => show e = Ending.returned (.tuple #[]) ∧ GrowR n B O Lk W0 w' from ⟨he, A', mm', c', ad', h1, HLk.out ▸ h2, (Step.of_below hG.below).trans h3⟩)
              go_wp2
              refine wp_region_steps (by kernel_rfl) (by kernel_rfl) (fun q : RGs => [(0, 44, growV R O G), (1, 45, .slice (some ⟨gp, 0, none⟩) m cp), (2, 46, .slice q.a m q.ca), (3, 47, .int .i64 (k : Int)), (4, 48, .slice (some ⟨q.b, 0, none⟩) 1 1), (5, 49, .slice q.d (m + 1) q.cd), (6, 50, .tuple #[])]) (RG6 W0 m k (lF (p ++ [k])) (GrowR n B O Lk W0)) ⟨none, 0, 0, none, 0⟩ (RG6.init _) ?_ ?_
              · refine (And.intro (fun s q wv hW hs hp => ?_) (And.intro (fun s q wv hW hs hp => ?_) (And.intro (fun s q wv hW hs hp => ?_) (And.intro (fun s q wv hW hs hp => ?_) (And.intro (fun s q wv hW hs hp => ?_) (And.intro (fun s q wv hW hs hp => ?_) (And.intro (fun s q wv hW hs hp => ?_) True.intro)))))))
                · have S6 : s 6 = false := hW.no6 hs (by decide); (try simp [waits, Region.binds, hs] at hp); (first | simp only [frm, List.foldl, Act.put, List.setIfInBounds_toArray, List.set_cons_succ, List.set_cons_zero, hs, hp, S6, cond_true, cond_false] | simp only [frm, List.foldl, Act.put, List.setIfInBounds_toArray, List.set_cons_succ, List.set_cons_zero, hs, S6, cond_true, cond_false]); have HW := Lib.hid hW; clear hW; have c0 := Below.cell (HW.out.grew S6).below (World.block_lt_of_cell? _ _ CG5.out) |>.trans CG5.out; go_wp2; refine ⟨q, by (first | simp [frm, Act.put, upd, hs, hp, S6] | simp [frm, Act.put, upd, hs, S6]), HW.out.keep S6 (by decide)⟩
                · have S6 : s 6 = false := hW.no6 hs (by decide); (try simp [waits, Region.binds, hs] at hp); (first | simp only [frm, List.foldl, Act.put, List.setIfInBounds_toArray, List.set_cons_succ, List.set_cons_zero, hs, hp, S6, cond_true, cond_false] | simp only [frm, List.foldl, Act.put, List.setIfInBounds_toArray, List.set_cons_succ, List.set_cons_zero, hs, S6, cond_true, cond_false]); have HW := Lib.hid hW; clear hW; go_wp2; refine ⟨q, by (first | simp [frm, Act.put, upd, hs, hp, S6] | simp [frm, Act.put, upd, hs, S6]), HW.out.keep S6 (by decide)⟩
                · have S6 : s 6 = false := hW.no6 hs (by decide); (try simp [waits, Region.binds, hs] at hp); (first | simp only [frm, List.foldl, Act.put, List.setIfInBounds_toArray, List.set_cons_succ, List.set_cons_zero, hs, hp, S6, cond_true, cond_false] | simp only [frm, List.foldl, Act.put, List.setIfInBounds_toArray, List.set_cons_succ, List.set_cons_zero, hs, S6, cond_true, cond_false]); have HW := Lib.hid hW; clear hW; have S1 : s 1 = true := (by simp [hp]); go_wp2_with fail; go_at_call 71; refine (clone_any ⟨gp, 0, none⟩ m cp (lF p) (by omega) _ (fun j hj => by rw [addr_add, Nat.zero_add]; exact ints_cell (IP5.out.below (HW.out.grew S6).below) hj)).mono ?_; rintro e' w2 ⟨o2, c2, rfl, hI2, hb2⟩; have HI2 := Lib.hid hI2; have HB2 := Lib.hid hb2; clear hI2 hb2; go_wp2; refine ⟨{ q with a := o2, ca := c2 }, by (first | simp [frm, Act.put, upd, hs, hp, S6] | simp [frm, Act.put, upd, hs, S6]), HW.out.own S6 S1 HB2.out (HI2.out.congr (fun j hj => HLT.out j hj))⟩
                · have S6 : s 6 = false := hW.no6 hs (by decide); (try simp [waits, Region.binds, hs] at hp); (first | simp only [frm, List.foldl, Act.put, List.setIfInBounds_toArray, List.set_cons_succ, List.set_cons_zero, hs, hp, S6, cond_true, cond_false] | simp only [frm, List.foldl, Act.put, List.setIfInBounds_toArray, List.set_cons_succ, List.set_cons_zero, hs, S6, cond_true, cond_false]); have HW := Lib.hid hW; clear hW; go_wp2; refine ⟨q, by (first | simp [frm, Act.put, upd, hs, hp, S6] | simp [frm, Act.put, upd, hs, S6]), HW.out.keep S6 (by decide)⟩
                · have S6 : s 6 = false := hW.no6 hs (by decide); (try simp [waits, Region.binds, hs] at hp); (first | simp only [frm, List.foldl, Act.put, List.setIfInBounds_toArray, List.set_cons_succ, List.set_cons_zero, hs, hp, S6, cond_true, cond_false] | simp only [frm, List.foldl, Act.put, List.setIfInBounds_toArray, List.set_cons_succ, List.set_cons_zero, hs, S6, cond_true, cond_false]); have HW := Lib.hid hW; clear hW; have S3 : s 3 = true := (by simp [hp]); go_wp2; refine ⟨{ q with b := wv.heap.size }, by (first | simp [frm, Act.put, upd, hs, hp, S6] | simp [frm, Act.put, upd, hs, S6]), HW.out.box S6 S3⟩
                · have S6 : s 6 = false := hW.no6 hs (by decide); (try simp [waits, Region.binds, hs] at hp); (first | simp only [frm, List.foldl, Act.put, List.setIfInBounds_toArray, List.set_cons_succ, List.set_cons_zero, hs, hp, S6, cond_true, cond_false] | simp only [frm, List.foldl, Act.put, List.setIfInBounds_toArray, List.set_cons_succ, List.set_cons_zero, hs, S6, cond_true, cond_false]); have HW := Lib.hid hW; clear hW; have S2 : s 2 = true := (by simp [hp]); have S4 : s 4 = true := (by simp [hp]); ((with_reducible apply (wpList_append_int (f := lF (p ++ [k])))); (case hgd => rfl); (case ho => rfl); (case hs => rfl); (case hx => rfl); (case hS => exact Try.underlying60); (case hown => exact HW.out.2.2.1 S2 hs); (case hz => exact HW.out.2.2.2.1 S4 hs); (case hf => exact HAT.out); (case hm => exact HM1.out); (case hB => exact (HW.out.grew S6).below.size); intro A2 c2 w2 hI2 hg2); have HI2 := Lib.hid hI2; have HG2 := Lib.hid hg2; clear hI2 hg2; go_wp2; refine ⟨{ q with d := A2, cd := c2 }, by (first | simp [frm, Act.put, upd, hs, hp, S6] | simp [frm, Act.put, upd, hs, S6]), HW.out.app S6 S2 S4 hs HI2.out HG2.out⟩
                · (try simp [waits, Region.binds, hs] at hp); (first | simp only [frm, List.foldl, Act.put, List.setIfInBounds_toArray, List.set_cons_succ, List.set_cons_zero, hs, hp, cond_true, cond_false] | simp only [frm, List.foldl, Act.put, List.setIfInBounds_toArray, List.set_cons_succ, List.set_cons_zero, hs, cond_true, cond_false]); have HW := Lib.hid hW; clear hW; have S0 : s 0 = true := (by simp [hp]); have S5 : s 5 = true := (by simp [hp]); go_wp2_with fail; go_at_call 67; refine (IH.out _ (HW.out.grew hs) q.d q.cd (HW.out.2.2.2.2.1 S5 hs)).mono ?_; rintro e' w2 ⟨rfl, hR⟩; have HR := Lib.hid hR; clear hR; go_wp2; refine ⟨q, by (first | simp [frm, Act.put, upd, hs, hp] | simp [frm, Act.put, upd, hs]), HW.out.call S0 S5 HR.out⟩
              · intro s q wg hW hall
                have hs := fun i (hi : i < 7) => hall i (by simpa using hi)
                simp only [frm, List.foldl, Act.put, List.setIfInBounds_toArray, List.set_cons_succ, List.set_cons_zero, hs 0 (by omega), hs 1 (by omega), hs 2 (by omega), hs 3 (by omega), hs 4 (by omega), hs 5 (by omega), hs 6 (by omega), cond_true]
                have HR := Lib.hid (hW.2.2.2.2.2 (hs 6 (by omega)))
                clear hW hs hall
                obtain ⟨qa, qca, qb, qd, qcd⟩ := q
                simp only
                go_wp2
                go_roundw
                case rel =>
                  obtain ⟨A7, m7, c7, ad7, hO7, hG7, hS7⟩ := HR.out
                  exact ⟨k + 1, by omega, by omega, by go_num, ⟨A7, m7, c7, ad7, hO7, by rw [upTo_yes HC.out, ← List.append_assoc, HLk.out]; exact hG7⟩, ST5.out.trans hS7⟩
                case measure => simp [intOf]; omega
        · have d0 : decide (k < n) = false := by simp; omega
          have HK := Lib.hid (show k = n by omega)
          go_wp2
          go_end0
          exact ⟨rfl, A4, m4, c4, ad4, O4.out, by have e := congrArg (fun t => upTo (Bt x) p (fun j => ringsI n (Bt x) d (p ++ [j])) t) HK.out; rw [← EQL.out, ← e]; exact G4.out, ST4.out⟩
end Go.Proofs.Ytbfhfadfjgfmaaa
