/- Contract of the reference's l1joint: the code of a joint's first fault. Conditions: what Go's own sizes give. -/
import Derived.Test.YtckcffjnffcjcaaNet1
set_option linter.unusedVariables false
set_option linter.unusedSimpArgs false
namespace Go.Proofs.Ytckcffjnffcjcaa
open Go.RowKit Go.Proofs.YtckcffjnffcjcaaW.PrintWords
def j3 (n : NetT) (j : JointT) : Bool := !(inB j.kind 1 4) || ((j.ends.length : Int) != j.kind) || j.ends.any (fun e => !endB n e)
def j4 (n : NetT) (i : Nat) (j : JointT) : Bool := if j.kind < 3 then !(j.name.toList).isEmpty else !nameOk j.name || (n.joints.take i).any (fun x => decide (x.name = j.name))
def jointCode (n : NetT) (i : Nat) : Int := if j3 n (n.joints.getD i default) = true then 3 else if j4 n i (n.joints.getD i default) = true then 4 else 0
theorem any_step {α : Type} [Inhabited α] {l : List α} {f : α → Bool} {i : Nat} (h : i < l.length) (ha : (l.take i).any f = false) (hp : f (l.getD i default) = false) : (l.take (i + 1)).any f = false := by
  rw [take_getD l i h, List.any_append, ha, List.any_cons, hp]; rfl
theorem any_stop {α : Type} [Inhabited α] {l : List α} {f : α → Bool} {i k : Nat} (h : i < l.length) (hk : i < k) (hp : f (l.getD i default) = true) : (l.take k).any f = true := by
  rw [List.any_eq_true]
  refine ⟨l.getD i default, ?_, hp⟩
  rw [getD_at l i h]
  exact List.mem_take_iff_getElem.2 ⟨i, by omega, rfl⟩
theorem below_drewN' {B : Nat} {w W : World} (h : Below B w W) (n : Nat) : Below B w (W.drewN n) := pw_below_drewN h n
set_option maxRecDepth 100000 in
set_option maxHeartbeats 1000000 in
theorem l1joint_any (n : NetT) (u : (Option Addr × Nat) × (Option Addr × Nat)) (i : Nat) (w : World) (hr : RdNet 67 w u n) (hi : i < n.joints.length) (hs : ∀ x ∈ n.joints, x.name.size ≤ 9223372036854775807) :
    Calls Try.prog 120 #[.agg #[.slice u.1.1 n.pieces.length u.1.2, .slice u.2.1 n.joints.length u.2.2], .int .i64 i] w
      fun e w' => e = .returned (.int .i64 (jointCode n i)) ∧ Below w.heap.size w w' := by
  have hm := hr.2.1.2.1
  have hpm := hr.1.1.2.1
  have HR := Aside0.mk hr.2.1
  clear hr
  obtain ⟨⟨A0, c0⟩, ⟨A1, c1⟩⟩ := u
  obtain ⟨ad0, B0, k0, e0, x0, x1, x2, m0, g0⟩ := at_Joint HR.out i hi
  subst e0
  have hjn := hs _ (getD_mem n.joints i hi)
  have HS := Aside0.mk hs
  clear hs
  obtain ⟨j, hj⟩ : ∃ j, j = n.joints.getD i default := ⟨_, rfl⟩
  have HJ := Aside0.mk hj
  rw [← hj] at x0 x1 x2 g0 hjn
  clear hj m0
  have hgm := g0.2.1
  have HG := Aside0.mk g0
  clear g0
  have hcode : jointCode n i = if j3 n j = true then 3 else if j4 n i j = true then 4 else 0 := by unfold jointCode; rw [← HJ.out]
  have HC := Aside0.mk hcode
  clear hcode
  obtain ⟨W0, hW0⟩ : ∃ W0 : World, W0 = (w.alloc (.cells #[.slice A0 n.pieces.length c0, .slice (some ad0) n.joints.length c1] 35)).alloc (.cells #[.int .i64 j.kind, .string j.name, .slice B0 j.ends.length k0] 139) := ⟨_, rfl⟩
  have n0 : W0.cell? ⟨w.heap.size, 0, none⟩ = some (.slice A0 n.pieces.length c0) := by rw [hW0]; go_simp
  have n1 : W0.cell? ⟨w.heap.size, 1, none⟩ = some (.slice (some ad0) n.joints.length c1) := by rw [hW0]; go_simp
  have f0 : W0.cell? ⟨w.heap.size + 1, 0, none⟩ = some (.int .i64 j.kind) := by rw [hW0]; go_simp
  have f1 : W0.cell? ⟨w.heap.size + 1, 1, none⟩ = some (.string j.name) := by rw [hW0]; go_simp
  have f2 : W0.cell? ⟨w.heap.size + 1, 2, none⟩ = some (.slice B0 j.ends.length k0) := by rw [hW0]; go_simp
  have fs : w.heap.size + 1 < W0.heap.size := by rw [hW0]; simp
  have fb := Aside0.mk (show Below w.heap.size w W0 by rw [hW0]; exact below_two _ _ _)
  have HW := Aside0.mk hW0
  clear hW0
  replace x0 := fun o : Obj => pw_cell_below (below_alloc (Below.refl _ _) o) x0
  replace x1 := fun o : Obj => pw_cell_below (below_alloc (Below.refl _ _) o) x1
  replace x2 := fun o : Obj => pw_cell_below (below_alloc (Below.refl _ _) o) x2
  cases hk : inB j.kind 1 4 with
  | false =>
    have HK := Aside0.mk hk
    go_enter Try.func120, Try.ntmps120
    go_wp2_with (go_at_call 119; refine (l1in_any _ _ _ _).mono ?_; rintro e w3 ⟨rfl, rfl⟩)
    go_ret
    refine ⟨?_, by rw [← HW.out]; exact fb.out⟩
    have : jointCode n i = 3 := by rw [HC.out, if_pos]; unfold j3; rw [HK.out]; rfl
    rw [this]; rfl
  | true =>
    have HK := Aside0.mk hk
    cases hl : ((j.ends.length : Int) != j.kind) with
    | true =>
      have HL := Aside0.mk hl
      go_enter Try.func120, Try.ntmps120
      go_wp2_with (go_at_call 119; refine (l1in_any _ _ _ _).mono ?_; rintro e w3 ⟨rfl, rfl⟩)
      go_ret
      refine ⟨?_, by rw [← HW.out]; exact fb.out⟩
      have : jointCode n i = 3 := by rw [HC.out, if_pos]; unfold j3; rw [HL.out]; simp
      rw [this]; rfl
    | false =>
      have HL := Aside0.mk hl
      go_enter Try.func120, Try.ntmps120
      go_wp2_with (go_at_call 119; refine (l1in_any _ _ _ _).mono ?_; rintro e w3 ⟨rfl, rfl⟩)
      rw [← HW.out]
      clear hk hl x0 x1 x2
      go_loopw [29] (fun v29 wr => ∃ q : Nat, v29 = .int .i64 q ∧ q ≤ j.ends.length ∧ Aside0 ((j.ends.take q).any (fun e => !endB n e) = false) ∧ Aside0 (Below W0.heap.size W0 wr)) (fun v29 _ => j.ends.length - (intOf v29).toNat)
      case atStart => exact ⟨0, rfl, Nat.zero_le _, ⟨by simp⟩, ⟨Below.refl _ _⟩⟩
      case round =>
        obtain ⟨q, rfl, hq, HQ, HB⟩ := hrel
        have a0 := pw_cell_below HB.out n0
        have a1 := pw_cell_below HB.out n1
        have a2 := pw_cell_below HB.out f0
        have a3 := pw_cell_below HB.out f1
        have a4 := pw_cell_below HB.out f2
        have as1 := Nat.lt_of_lt_of_le fs HB.out.size
        have as0 : w.heap.size < wr.heap.size := by omega
        by_cases hqt : q < j.ends.length
        · obtain ⟨ad1, e1, y0, y1⟩ := at_End HG.out q hqt
          subst e1
          have HBw := Aside0.mk (below_more fb.out HB.out)
          replace y0 := pw_cell_below HBw.out y0
          replace y1 := pw_cell_below HBw.out y1
          obtain ⟨p, hp⟩ : ∃ p, p = j.ends.getD q default := ⟨_, rfl⟩
          rw [← hp] at y0 y1
          have HP := Aside0.mk hp
          clear hp
          cases he : endB n p with
          | true =>
            have HE := Aside0.mk he
            go_wp2_with (go_at_call 132; refine (l1end_any n ((A0, c0), (some ad0, c1)) p _ hpm).mono ?_; rintro e w3 ⟨rfl, hb3⟩)
            go_roundw
            case rel => exact ⟨q + 1, by go_num, by omega, ⟨any_step hqt HQ.out (by rw [← HP.out, HE.out]; rfl)⟩, ⟨below_more HB.out (below_more (below_alloc (Below.refl _ _) _) hb3)⟩⟩
            case measure => simp [intOf]; omega
          | false =>
            have HE := Aside0.mk he
            go_wp2_with (go_at_call 132; refine (l1end_any n ((A0, c0), (some ad0, c1)) p _ hpm).mono ?_; rintro e w3 ⟨rfl, hb3⟩)
            go_ret
            refine ⟨?_, below_more fb.out (below_more HB.out (below_more (below_alloc (Below.refl _ _) _) hb3))⟩
            have h5 := any_stop (f := fun e => !endB n e) hqt (Nat.lt_succ_self q) (by rw [← HP.out, HE.out]; rfl)
            have : jointCode n i = 3 := by
              rw [HC.out, if_pos]; unfold j3
              have : j.ends.any (fun e => !endB n e) = true := by
                rw [List.any_eq_true] at h5 ⊢
                obtain ⟨x, hx, hx2⟩ := h5
                exact ⟨x, List.mem_of_mem_take hx, hx2⟩
              rw [this]; simp
            rw [this]; rfl
        · have h3 : j3 n j = false := by
            unfold j3
            have h6 := HQ.out
            rw [List.take_of_length_le (by omega)] at h6
            rw [HK.out, HL.out, h6]; rfl
          have HC4 : Aside0 (jointCode n i = if j4 n i j = true then 4 else 0) := ⟨by rw [HC.out, if_neg (by rw [h3]; simp)]⟩
          clear h3
          by_cases hk3 : j.kind < 3
          · cases hem : j.name.toList.isEmpty with
            | true =>
              have HE := Aside0.mk hem
              go_wp2
              go_ret
              refine ⟨?_, below_more fb.out HB.out⟩
              have : jointCode n i = 0 := by rw [HC4.out, if_neg]; unfold j4; rw [if_pos hk3, HE.out]; simp
              rw [this]; rfl
            | false =>
              have HE := Aside0.mk hem
              go_wp2
              go_ret
              refine ⟨?_, below_more fb.out HB.out⟩
              have : jointCode n i = 4 := by rw [HC4.out, if_pos]; unfold j4; rw [if_pos hk3, HE.out]; rfl
              rw [this]; rfl
          · cases hnm : nameOk j.name with
            | false =>
              have HE := Aside0.mk hnm
              go_wp2_with (go_at_call 118; refine (l1name_any _ _ hjn).mono ?_; rintro e w3 ⟨rfl, rfl⟩)
              go_ret
              refine ⟨?_, below_more fb.out HB.out⟩
              have : jointCode n i = 4 := by rw [HC4.out, if_pos]; unfold j4; rw [if_neg (by omega), HE.out]; rfl
              rw [this]; rfl
            | true =>
              have HE := Aside0.mk hnm
              go_wp2_with (go_at_call 118; refine (l1name_any _ _ hjn).mono ?_; rintro e w3 ⟨rfl, rfl⟩)
              go_loopw [8] (fun v8 wq => ∃ r : Nat, v8 = .int .i64 r ∧ r ≤ i ∧ Aside0 ((n.joints.take r).any (fun x => decide (x.name = j.name)) = false) ∧ Aside0 (Below W0.heap.size W0 wq)) (fun v8 _ => i - (intOf v8).toNat)
              case atStart => exact ⟨0, rfl, Nat.zero_le _, ⟨by simp⟩, HB⟩
              case round =>
                clear a0 a1 a2 a3 a4 as1 as0
                obtain ⟨r, rfl, hri, HRr, HBr⟩ := hrel
                have b0 := pw_cell_below HBr.out n1
                have b1 := pw_cell_below HBr.out f1
                by_cases hrt : r < i
                · have hrn : r < n.joints.length := by omega
                  obtain ⟨ad2, B2, k2, e2, z0, z1, z2, m2, g2⟩ := at_Joint HR.out r hrn
                  injection e2 with e2
                  subst e2
                  clear z0 z2 m2 g2
                  replace z1 := pw_cell_below (below_more fb.out HBr.out) z1
                  obtain ⟨y, hy⟩ : ∃ y, y = n.joints.getD r default := ⟨_, rfl⟩
                  rw [← hy] at z1
                  have HY := Aside0.mk hy
                  clear hy
                  have hr0 : (0 : Int) ≤ (r : Int) := by omega
                  have hr1 : (r : Int) < (n.joints.length : Int) := by omega
                  cases hd : (y.name.toList == j.name.toList) with
                  | true =>
                    have HD := Aside0.mk hd
                    go_wp2
                    go_quiet (fail)
                    go_wp2
                    go_ret
                    refine ⟨?_, below_more fb.out (below_drewN' HBr.out _)⟩
                    have h5 := any_stop (f := fun x => decide (x.name = j.name)) (l := n.joints) hrn (k := i) hrt (by rw [← HY.out]; exact decide_eq_true (toList_inj.1 (by simpa using HD.out)))
                    have : jointCode n i = 4 := by rw [HC4.out, if_pos]; unfold j4; rw [if_neg (by omega), h5]; simp
                    rw [this]; rfl
                  | false =>
                    have HD := Aside0.mk hd
                    go_wp2
                    go_quiet (fail)
                    go_wp2
                    go_roundw
                    case rel => exact ⟨r + 1, by go_num, by omega, ⟨any_step hrn HRr.out (by rw [← HY.out]; exact decide_eq_false (fun h => by have := HD.out; rw [h] at this; simp at this))⟩, ⟨below_drewN' HBr.out _⟩⟩
                    case measure => simp [intOf]; omega
                · go_wp2
                  go_ret
                  refine ⟨?_, below_more fb.out HBr.out⟩
                  have h6 := HRr.out
                  rw [show r = i from by omega] at h6
                  have : jointCode n i = 0 := by rw [HC4.out, if_neg]; unfold j4; rw [if_neg (by omega), HE.out, h6]; simp
                  rw [this]; rfl
end Go.Proofs.Ytckcffjnffcjcaa
