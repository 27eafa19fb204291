/- Contracts of what asks whether lies and a drive are good: l3lies, liesOk, l3good, driveOk. Conditions: the net fits. -/
import Derived.Test.YtckcffjnffcjcaaDr1
import Derived.Test.YtckcffjnffcjcaaCut0
set_option linter.unusedVariables false
set_option linter.unusedSimpArgs false
namespace Go.Proofs.Ytckcffjnffcjcaa
open Go.RowKit Go.Proofs.YtckcffjnffcjcaaW.PrintWords
def lieB (n : NetT) (lies : List Int) (i : Nat) : Bool := inB (lies.getD i 0) 0 2 && (lies.getD i 0 == 0 || (n.joints.getD i default).kind == 3)
theorem liesB_len {n : NetT} {lies : List Int} (h : lies.length ≠ n.joints.length) : liesB n lies = false := by unfold liesB; rw [decide_eq_false h]; rfl
theorem liesB_all {n : NetT} {lies : List Int} (h : lies.length = n.joints.length) (ha : ∀ k, k < lies.length → lieB n lies k = true) : liesB n lies = true := by
  unfold liesB; rw [decide_eq_true h, Bool.true_and, List.all_eq_true]
  exact fun i hi => ha i (List.mem_range.1 hi)
theorem liesB_one {n : NetT} {lies : List Int} {i : Nat} (h : i < lies.length) (ha : lieB n lies i = false) : liesB n lies = false := by
  unfold liesB
  have : (List.range lies.length).all (fun i => inB (lies.getD i 0) 0 2 && (lies.getD i 0 == 0 || (n.joints.getD i default).kind == 3)) = false := by
    rw [Bool.eq_false_iff]
    intro h2
    have h3 := List.all_eq_true.1 h2 i (List.mem_range.2 h)
    have h4 : lieB n lies i = true := h3
    rw [ha] at h4; cases h4
  rw [this, Bool.and_false]
set_option maxRecDepth 100000 in
set_option maxHeartbeats 2000000 in
theorem l3lies_any (n : NetT) (u : (Option Addr × Nat) × (Option Addr × Nat)) (v : Option Addr × Nat) (lies : List Int) (w : World) (hr : RdNet 67 w u n) (hl : Kd.C (Kd.int .i64) w v.1 lies.length lies) :
    Calls Try.prog 171 #[.agg #[.slice u.1.1 n.pieces.length u.1.2, .slice u.2.1 n.joints.length u.2.2], .slice v.1 lies.length v.2] w fun e w' => e = .returned (.bool (liesB n lies)) ∧ Below w.heap.size w w' := by
  have hm := hr.2.1.2.1
  have hlm := hl.2.1
  have HJ := Aside0.mk hr.2.1
  have HL := Aside0.mk hl
  clear hr hl
  obtain ⟨⟨A0, c0⟩, ⟨A1, c1⟩⟩ := u
  obtain ⟨A2, c2⟩ := v
  simp only at HJ HL ⊢
  obtain ⟨W0, hW0⟩ : ∃ W0, W0 = w.alloc (.cells #[.slice A0 n.pieces.length c0, .slice A1 n.joints.length c1] 35) := ⟨_, rfl⟩
  have HN : Aside0 (Bx W0 w.heap.size [.slice A0 n.pieces.length c0, .slice A1 n.joints.length c1]) := ⟨by rw [hW0]; exact Bx.new w _ 35⟩
  have fb := Aside0.mk (show Below w.heap.size w W0 by rw [hW0]; exact below_alloc (Below.refl _ _) _)
  have HW := Aside0.mk hW0
  clear hW0
  by_cases hne : lies.length = n.joints.length
  · have hne' : ((lies.length : Int) != (n.joints.length : Int)) = false := by simp [hne]
    have HE := Aside0.mk hne
    clear hne
    go_enter Try.func171, Try.ntmps171
    go_wp2
    rw [← HW.out]
    clear hne'
    go_loopw [15] (fun v15 wr => ∃ (i : Nat), v15 = .int .i64 i ∧ i ≤ lies.length ∧ Aside0 (∀ k, k < i → lieB n lies k = true) ∧ Aside0 (Below W0.heap.size W0 wr)) (fun v15 _ => lies.length - (intOf v15).toNat)
    case atStart => exact ⟨0, rfl, Nat.zero_le _, ⟨fun k hk => by omega⟩, ⟨Below.refl _ _⟩⟩
    case round =>
      obtain ⟨i, rfl, hi, HT, HB⟩ := hrel
      have HBw := Aside0.mk (below_more fb.out HB.out)
      by_cases hlt : i < lies.length
      · obtain ⟨ad, e0, y0⟩ := at_Int HL.out i hlt
        obtain ⟨ad1, A3, k3, e1, x0, x1, x2, m0, g0⟩ := at_Joint HJ.out i (by have := HE.out; omega)
        subst e0
        subst e1
        clear x1 x2 m0 g0
        replace y0 := pw_cell_below HBw.out y0
        replace x0 := pw_cell_below HBw.out x0
        have n1 := (HN.out.below HB.out).c 1 _ rfl
        have hij : (i : Int) < (n.joints.length : Int) := by have := HE.out; omega
        obtain ⟨x, hx⟩ : ∃ x, x = lies.getD i 0 := ⟨_, rfl⟩
        obtain ⟨kd, hkd⟩ : ∃ kd, kd = (n.joints.getD i default).kind := ⟨_, rfl⟩
        rw [← hx] at y0
        rw [← hkd] at x0
        have HLB : Aside0 (lieB n lies i = (inB x 0 2 && (x == 0 || kd == 3))) := ⟨by unfold lieB; rw [hx, hkd]⟩
        clear hx hkd
        by_cases h1 : 0 ≤ x ∧ x ≤ 2
        · have hin := inB_true.2 h1
          by_cases h2 : x = 0
          · have HT1 : Aside0 (lieB n lies i = true) := ⟨by rw [HLB.out, hin]; simp [h2]⟩
            subst h2
            have HIN := Aside0.mk hin
            clear hin
            go_wp2_with (go_at_call 119; refine (l1in_any _ _ _ _).mono ?_; rintro e w3 ⟨rfl, rfl⟩; rw [HIN.out])
            go_roundw
            case rel => exact ⟨i + 1, by go_num, by omega, ⟨upto_step HT.out HT1.out⟩, HB⟩
            case measure => simp [intOf]; omega
          · have b2 : (x != 0) = true := by simpa using h2
            have b4 : decide (0 < x) = true := by simp; omega
            have b5 : (0 : Int) < x := by omega
            by_cases h3 : kd = 3
            · have b3 : (kd != 3) = false := by simp [h3]
              have HT1 : Aside0 (lieB n lies i = true) := ⟨by rw [HLB.out, hin]; simp [h3]⟩
              have HIN := Aside0.mk hin
              clear hin
              go_wp2_with (go_at_call 119; refine (l1in_any _ _ _ _).mono ?_; rintro e w3 ⟨rfl, rfl⟩; rw [HIN.out])
              go_roundw
              case rel => exact ⟨i + 1, by go_num, by omega, ⟨upto_step HT.out HT1.out⟩, HB⟩
              case measure => simp [intOf]; omega
            · have b3 : (kd != 3) = true := by simpa using h3
              have HR : Aside0 (liesB n lies = false) := ⟨liesB_one hlt (by rw [HLB.out, hin]; simp [h2, h3])⟩
              have HIN := Aside0.mk hin
              clear hin
              go_wp2_with (go_at_call 119; refine (l1in_any _ _ _ _).mono ?_; rintro e w3 ⟨rfl, rfl⟩; rw [HIN.out])
              go_ret
              exact ⟨by rw [HR.out]; rfl, HBw.out⟩
        · have hin := inB_false.2 h1
          have HR : Aside0 (liesB n lies = false) := ⟨liesB_one hlt (by rw [HLB.out, hin]; rfl)⟩
          have HIN := Aside0.mk hin
          clear hin
          by_cases h4 : x < 0
          · go_wp2_with (go_at_call 119; refine (l1in_any _ _ _ _).mono ?_; rintro e w3 ⟨rfl, rfl⟩; rw [HIN.out])
            go_ret
            exact ⟨by rw [HR.out]; rfl, HBw.out⟩
          · have h5 : 2 < x := by omega
            go_wp2_with (go_at_call 119; refine (l1in_any _ _ _ _).mono ?_; rintro e w3 ⟨rfl, rfl⟩; rw [HIN.out])
            go_ret
            exact ⟨by rw [HR.out]; rfl, HBw.out⟩
      · have HR : Aside0 (liesB n lies = true) := ⟨liesB_all HE.out (fun k hk => HT.out k (by omega))⟩
        go_wp2
        go_ret
        exact ⟨by rw [HR.out]; rfl, HBw.out⟩
  · have hne' : ((lies.length : Int) != (n.joints.length : Int)) = true := by simp; omega
    have HE := Aside0.mk (liesB_len hne)
    go_enter Try.func171, Try.ntmps171
    go_wp2
    go_ret
    exact ⟨by rw [HE.out]; rfl, below_alloc (Below.refl _ _) _⟩
set_option maxRecDepth 100000 in
set_option maxHeartbeats 2000000 in
theorem liesOk_any (n : NetT) (u : (Option Addr × Nat) × (Option Addr × Nat)) (v : Option Addr × Nat) (lies : List Int) (w : World) (hr : RdNet 67 w u n) (hl : Kd.C (Kd.int .i64) w v.1 lies.length lies) :
    Calls Try.prog 169 #[.agg #[.slice u.1.1 n.pieces.length u.1.2, .slice u.2.1 n.joints.length u.2.2], .slice v.1 lies.length v.2] w fun e w' => e = .returned (.bool (liesB n lies)) ∧ Below w.heap.size w w' := by
  have hm := hr.2.1.2.1
  have hlm := hl.2.1
  have HJ := Aside0.mk hr.2.1
  have HL := Aside0.mk hl
  clear hr hl
  obtain ⟨⟨A0, c0⟩, ⟨A1, c1⟩⟩ := u
  obtain ⟨A2, c2⟩ := v
  simp only at HJ HL ⊢
  obtain ⟨W0, hW0⟩ : ∃ W0, W0 = w.alloc (.cells #[.slice A0 n.pieces.length c0, .slice A1 n.joints.length c1] 35) := ⟨_, rfl⟩
  have HN : Aside0 (Bx W0 w.heap.size [.slice A0 n.pieces.length c0, .slice A1 n.joints.length c1]) := ⟨by rw [hW0]; exact Bx.new w _ 35⟩
  have fb := Aside0.mk (show Below w.heap.size w W0 by rw [hW0]; exact below_alloc (Below.refl _ _) _)
  have HW := Aside0.mk hW0
  clear hW0
  by_cases hne : lies.length = n.joints.length
  · have hne' : ((lies.length : Int) != (n.joints.length : Int)) = false := by simp [hne]
    have HE := Aside0.mk hne
    clear hne
    go_enter Try.func169, Try.ntmps169
    go_wp2
    rw [← HW.out]
    clear hne'
    go_loopw [15] (fun v15 wr => ∃ (i : Nat), v15 = .int .i64 i ∧ i ≤ lies.length ∧ Aside0 (∀ k, k < i → lieB n lies k = true) ∧ Aside0 (Below W0.heap.size W0 wr)) (fun v15 _ => lies.length - (intOf v15).toNat)
    case atStart => exact ⟨0, rfl, Nat.zero_le _, ⟨fun k hk => by omega⟩, ⟨Below.refl _ _⟩⟩
    case round =>
      obtain ⟨i, rfl, hi, HT, HB⟩ := hrel
      have HBw := Aside0.mk (below_more fb.out HB.out)
      by_cases hlt : i < lies.length
      · obtain ⟨ad, e0, y0⟩ := at_Int HL.out i hlt
        obtain ⟨ad1, A3, k3, e1, x0, x1, x2, m0, g0⟩ := at_Joint HJ.out i (by have := HE.out; omega)
        subst e0
        subst e1
        clear x1 x2 m0 g0
        replace y0 := pw_cell_below HBw.out y0
        replace x0 := pw_cell_below HBw.out x0
        have n1 := (HN.out.below HB.out).c 1 _ rfl
        have hij : (i : Int) < (n.joints.length : Int) := by have := HE.out; omega
        obtain ⟨x, hx⟩ : ∃ x, x = lies.getD i 0 := ⟨_, rfl⟩
        obtain ⟨kd, hkd⟩ : ∃ kd, kd = (n.joints.getD i default).kind := ⟨_, rfl⟩
        rw [← hx] at y0
        rw [← hkd] at x0
        have HLB : Aside0 (lieB n lies i = (inB x 0 2 && (x == 0 || kd == 3))) := ⟨by unfold lieB; rw [hx, hkd]⟩
        clear hx hkd
        by_cases h1 : 0 ≤ x ∧ x ≤ 2
        · have hin := inB_true.2 h1
          by_cases h2 : x = 0
          · have HT1 : Aside0 (lieB n lies i = true) := ⟨by rw [HLB.out, hin]; simp [h2]⟩
            subst h2
            have HIN := Aside0.mk hin
            clear hin
            go_wp2
            go_roundw
            case rel => exact ⟨i + 1, by go_num, by omega, ⟨upto_step HT.out HT1.out⟩, HB⟩
            case measure => simp [intOf]; omega
          · have b2 : (x != 0) = true := by simpa using h2
            have b4 : decide (0 < x) = true := by simp; omega
            have b5 : (0 : Int) < x := by omega
            by_cases h3 : kd = 3
            · have b3 : (kd != 3) = false := by simp [h3]
              have HT1 : Aside0 (lieB n lies i = true) := ⟨by rw [HLB.out, hin]; simp [h3]⟩
              have HIN := Aside0.mk hin
              clear hin
              go_wp2
              go_roundw
              case rel => exact ⟨i + 1, by go_num, by omega, ⟨upto_step HT.out HT1.out⟩, HB⟩
              case measure => simp [intOf]; omega
            · have b3 : (kd != 3) = true := by simpa using h3
              have HR : Aside0 (liesB n lies = false) := ⟨liesB_one hlt (by rw [HLB.out, hin]; simp [h2, h3])⟩
              have HIN := Aside0.mk hin
              clear hin
              go_wp2
              go_ret
              exact ⟨by rw [HR.out]; rfl, HBw.out⟩
        · have hin := inB_false.2 h1
          have HR : Aside0 (liesB n lies = false) := ⟨liesB_one hlt (by rw [HLB.out, hin]; rfl)⟩
          have HIN := Aside0.mk hin
          clear hin
          by_cases h4 : x < 0
          · go_wp2
            go_ret
            exact ⟨by rw [HR.out]; rfl, HBw.out⟩
          · have h5 : 2 < x := by omega
            go_wp2
            go_ret
            exact ⟨by rw [HR.out]; rfl, HBw.out⟩
      · have HR : Aside0 (liesB n lies = true) := ⟨liesB_all HE.out (fun k hk => HT.out k (by omega))⟩
        go_wp2
        go_ret
        exact ⟨by rw [HR.out]; rfl, HBw.out⟩
  · have hne' : ((lies.length : Int) != (n.joints.length : Int)) = true := by simp; omega
    have HE := Aside0.mk (liesB_len hne)
    go_enter Try.func169, Try.ntmps169
    go_wp2
    go_ret
    exact ⟨by rw [HE.out]; rfl, below_alloc (Below.refl _ _) _⟩
end Go.Proofs.Ytckcffjnffcjcaa
