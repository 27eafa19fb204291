/- Contracts of the laws' own helpers: a byte of a row, a drawn length; a net, a row of parts, a row of whole numbers is its own like. Conditions: each byte is one. -/
import Derived.Test.YtckcffjnffcjcaaGen5
import Derived.Test.YtckcffjnffcjcaaLaws1
set_option linter.unusedVariables false
set_option linter.unusedSimpArgs false
namespace Go.Proofs.Ytckcffjnffcjcaa
open Go.RowKit Go.Proofs.YtckcffjnffcjcaaW.PrintWords
set_option maxRecDepth 100000 in
theorem wByte_any (code : List Int) (A : Option Addr) (c i : Nat) (m : Int) (w : World) (hr : Kd.C (Kd.int .u8) w A code.length code) (hg : GCode code) (hm : m = (i : Int)) (hi : i ≤ 1000000) (hl : code.length ≤ 1048576) :
    Calls Try.prog 62 #[.slice A code.length c, .int .i64 m] w fun e w' => e = .returned (.int .i64 (byteV code i)) ∧ w = w' := by
  subst hm
  have hb := byteV_bd hg i
  by_cases h0 : code.length = 0
  · have hz : ((code.length : Int) == 0) = true := by simp [h0]
    have HV : Aside0 (byteV code i = 0) := ⟨by unfold byteV; rw [if_pos h0]⟩
    have hz2 : decide (code.length = 0) = true := by simp [h0]
    have HH := Aside0.mk h0
    clear h0 hr
    go_enter Try.func62, Try.ntmps62
    go_wp2
    go_ret
    exact ⟨by rw [HV.out]; rfl, rfl⟩
  · have hz : ((code.length : Int) == 0) = false := by rw [beq_eq_false_iff_ne]; omega
    have hz2 : decide (code.length = 0) = false := decide_eq_false (by omega)
    have hk : i % code.length < code.length := Nat.mod_lt _ (by omega)
    have HV : Aside0 (byteV code i = code.getD (i % code.length) 0) := ⟨by unfold byteV; rw [if_neg h0]⟩
    rw [HV.out] at hb
    obtain ⟨ad0, e0, y0⟩ := at_Byte hr (i % code.length) hk
    subst e0
    obtain ⟨q, hq⟩ : ∃ q, q = code.getD (i % code.length) 0 := ⟨_, rfl⟩
    rw [← hq] at y0 hb HV
    obtain ⟨k, hkk⟩ : ∃ k, k = i % code.length := ⟨_, rfl⟩
    rw [← hkk] at y0 hk
    have hkm : (i : Int) % (code.length : Int) = (k : Int) := by rw [hkk]; simp
    have hk0 : (0 : Int) ≤ (k : Int) := by omega
    have hk1 : (k : Int) < (code.length : Int) := by omega
    clear hr hq hkk
    have hp : (0 : Int) < (code.length : Int) := by omega
    go_enter Try.func62, Try.ntmps62
    go_wp2
    go_ret
    exact ⟨by rw [HV.out]; rfl, rfl⟩
set_option maxRecDepth 100000 in
theorem wWhole_any (code : List Int) (A : Option Addr) (c i : Nat) (m : Int) (w : World) (hr : Kd.C (Kd.int .u8) w A code.length code) (hg : GCode code) (hm : m = (i : Int)) (hi : i ≤ 900000) (hl : code.length ≤ 1048576) :
    Calls Try.prog 36 #[.slice A code.length c, .int .i64 m] w fun e w' => e = .returned (.int .i64 (wholeV code i)) ∧ w = w' := by
  subst hm
  have b0 := byteV_bd hg i
  have b1 := byteV_bd hg (i + 1)
  have b2 := byteV_bd hg (i + 2)
  have HV : Aside0 (wholeV code i = (byteV code i + 256 * byteV code (i + 1)) % (1 + 40 * byteV code (i + 2))) := ⟨rfl⟩
  obtain ⟨q0, h0⟩ : ∃ q, q = byteV code i := ⟨_, rfl⟩
  obtain ⟨q1, h1⟩ : ∃ q, q = byteV code (i + 1) := ⟨_, rfl⟩
  obtain ⟨q2, h2⟩ : ∃ q, q = byteV code (i + 2) := ⟨_, rfl⟩
  rw [← h0, ← h1, ← h2] at HV
  rw [← h0] at b0
  rw [← h1] at b1
  rw [← h2] at b2
  have Q0 := Aside0.mk h0
  have Q1 := Aside0.mk h1
  have Q2 := Aside0.mk h2
  have HR := Aside0.mk hr
  clear h0 h1 h2 hr
  go_enter Try.func36, Try.ntmps36
  go_wp2_with fail
  refine (wByte_any code A c i _ _ HR.out hg rfl (by omega) hl).mono ?_
  rintro e w1 ⟨rfl, rfl⟩
  rw [← Q0.out]
  go_wp2_with fail
  refine (wByte_any code A c (i + 1) _ _ HR.out hg (by omega) (by omega) hl).mono ?_
  rintro e w1 ⟨rfl, rfl⟩
  rw [← Q1.out]
  go_wp2_with fail
  refine (wByte_any code A c (i + 2) _ _ HR.out hg (by omega) (by omega) hl).mono ?_
  rintro e w1 ⟨rfl, rfl⟩
  rw [← Q2.out]
  go_wp2_with fail
  go_ret
  exact ⟨by rw [HV.out]; rfl, rfl⟩
set_option maxRecDepth 100000 in
set_option maxHeartbeats 2000000 in
theorem wInts_same (l : List Int) (A0 : Option Addr) (c0 : Nat) (A1 : Option Addr) (c1 : Nat) (w : World) (hr0 : Kd.C (Kd.int .i64) w A0 l.length l) (hr1 : Kd.C (Kd.int .i64) w A1 l.length l) :
    Calls Try.prog 40 #[.slice A0 l.length c0, .slice A1 l.length c1] w fun e w' => e = .returned (.bool true) ∧ Below w.heap.size w w' := by
  have hm := hr0.2.1
  have H0 := Aside0.mk hr0
  have H1 := Aside0.mk hr1
  clear hr0 hr1
  go_enter Try.func40, Try.ntmps40
  go_wp2
  go_loopw [13] (fun v13 wr => ∃ i : Nat, v13 = .int .i64 (i : Int) ∧ i ≤ l.length ∧ Aside0 (Below w.heap.size w wr)) (fun v13 _ => l.length - (intOf v13).toNat)
  case atStart => exact ⟨0, rfl, Nat.zero_le _, ⟨Below.refl _ _⟩⟩
  case round =>
    obtain ⟨i, rfl, hi, HB⟩ := hrel
    by_cases hlt : i < l.length
    · obtain ⟨ad0, e0, x0⟩ := at_Int (Kd.C_below H0.out HB.out) i hlt
      obtain ⟨ad1, e1, x1⟩ := at_Int (Kd.C_below H1.out HB.out) i hlt
      subst e0 e1
      obtain ⟨p, hp⟩ : ∃ p, p = l.getD i 0 := ⟨_, rfl⟩
      rw [← hp] at x0 x1
      have hi0 : (0 : Int) ≤ (i : Int) := by omega
      have hi1 : (i : Int) < (l.length : Int) := by omega
      clear hp
      go_wp2
      go_quiet (fail)
      all_goals
        go_wp2
        go_roundw
        case rel => exact ⟨i + 1, by go_num, by omega, ⟨below_drewN' HB.out _⟩⟩
        case measure => simp [intOf]; omega
    · go_wp2
      go_ret
      exact ⟨rfl, HB.out⟩
set_option maxRecDepth 100000 in
set_option maxHeartbeats 2000000 in
theorem wParts_same (l : List PartT) (A0 : Option Addr) (c0 : Nat) (A1 : Option Addr) (c1 : Nat) (w : World) (hr0 : Kd.C kPart w A0 l.length l) (hr1 : Kd.C kPart w A1 l.length l) :
    Calls Try.prog 69 #[.slice A0 l.length c0, .slice A1 l.length c1] w fun e w' => e = .returned (.bool true) ∧ Below w.heap.size w w' := by
  have hm := hr0.2.1
  have H0 := Aside0.mk hr0
  have H1 := Aside0.mk hr1
  clear hr0 hr1
  go_enter Try.func69, Try.ntmps69
  go_wp2
  go_loopw [13] (fun v13 wr => ∃ i : Nat, v13 = .int .i64 (i : Int) ∧ i ≤ l.length ∧ Aside0 (Below w.heap.size w wr)) (fun v13 _ => l.length - (intOf v13).toNat)
  case atStart => exact ⟨0, rfl, Nat.zero_le _, ⟨Below.refl _ _⟩⟩
  case round =>
    obtain ⟨i, rfl, hi, HB⟩ := hrel
    by_cases hlt : i < l.length
    · obtain ⟨ad0, e0, x0, x1, x2⟩ := at_Part (Kd.C_below H0.out HB.out) i hlt
      obtain ⟨ad1, e1, y0, y1, y2⟩ := at_Part (Kd.C_below H1.out HB.out) i hlt
      subst e0 e1
      obtain ⟨p, hp⟩ : ∃ p, p = l.getD i default := ⟨_, rfl⟩
      rw [← hp] at x0 x1 x2 y0 y1 y2
      have hi0 : (0 : Int) ≤ (i : Int) := by omega
      have hi1 : (i : Int) < (l.length : Int) := by omega
      clear hp
      go_wp2
      go_quiet (fail)
      all_goals
        go_wp2
        go_roundw
        case rel => exact ⟨i + 1, by go_num, by omega, ⟨below_drewN' HB.out _⟩⟩
        case measure => simp [intOf]; omega
    · go_wp2
      go_ret
      exact ⟨rfl, HB.out⟩
set_option maxRecDepth 100000 in
set_option maxHeartbeats 4000000 in
theorem wNet_same (n : NetT) (u v : (Option Addr × Nat) × (Option Addr × Nat)) (w : World) (hu : RdNet 67 w u n) (hv : RdNet 67 w v n) (hs : ∀ x ∈ n.joints, x.name.size ≤ 9223372036854775807) (hps : ∀ x ∈ n.pieces, x.name.size ≤ 9223372036854775807) :
    Calls Try.prog 39 #[.agg #[.slice u.1.1 n.pieces.length u.1.2, .slice u.2.1 n.joints.length u.2.2], .agg #[.slice v.1.1 n.pieces.length v.1.2, .slice v.2.1 n.joints.length v.2.2]] w fun e w' => e = .returned (.bool true) ∧ Below w.heap.size w w' := by
  obtain ⟨⟨A0, c0⟩, ⟨A1, c1⟩⟩ := u
  obtain ⟨⟨A2, c2⟩, ⟨A3, c3⟩⟩ := v
  simp only
  have hm0 := hu.1.1.2.1
  have hm1 := hu.2.1.2.1
  obtain ⟨W0, hW0, hN, hM, fb0, hsz⟩ := box2 w [.slice A0 n.pieces.length c0, .slice A1 n.joints.length c1] [.slice A2 n.pieces.length c2, .slice A3 n.joints.length c3] 35 35
  have fb := Aside0.mk fb0
  have HN := Aside0.mk hN
  have HM := Aside0.mk hM
  have HW := Aside0.mk hW0
  have HU := Aside0.mk (hu.below fb0)
  have HV := Aside0.mk (hv.below fb0)
  have n0 := hN.c 0 _ rfl; have n1 := hN.c 1 _ rfl; have m0 := hM.c 0 _ rfl; have m1 := hM.c 1 _ rfl
  clear hW0 fb0 hsz hN hM hu hv
  go_enter Try.func39, Try.ntmps39
  go_wp2_with fail
  rw [← HW.out]
  go_wp2_with fail
  clear n0 n1 m0 m1
  go_loopw [29] (fun v29 wr => ∃ i : Nat, v29 = .int .i64 (i : Int) ∧ i ≤ n.pieces.length ∧ Aside0 (Below W0.heap.size W0 wr)) (fun v29 _ => n.pieces.length - (intOf v29).toNat)
  case atStart => exact ⟨0, rfl, Nat.zero_le _, ⟨Below.refl _ _⟩⟩
  case round =>
    obtain ⟨i, rfl, hi, HB⟩ := hrel
    have n0 := (HN.out.below HB.out).c 0 _ rfl; have n1 := (HN.out.below HB.out).c 1 _ rfl; have m0 := (HM.out.below HB.out).c 0 _ rfl; have m1 := (HM.out.below HB.out).c 1 _ rfl
    by_cases hlt : i < n.pieces.length
    · obtain ⟨ad0, e0, x0, x1, x2, x3⟩ := at_Piece (Kd.C_below HU.out.1.1 HB.out) i hlt
      obtain ⟨ad1, e1, y0, y1, y2, y3⟩ := at_Piece (Kd.C_below HV.out.1.1 HB.out) i hlt
      simp only at e0 e1
      subst e0 e1
      obtain ⟨p, hp⟩ : ∃ p, p = n.pieces.getD i default := ⟨_, rfl⟩
      rw [← hp] at x0 x1 x2 x3 y0 y1 y2 y3
      have hi0 : (0 : Int) ≤ (i : Int) := by omega
      have hi1 : (i : Int) < (n.pieces.length : Int) := by omega
      clear hp
      go_wp2
      go_quiet (fail)
      all_goals
        go_wp2
        go_roundw
        case rel => exact ⟨i + 1, by go_num, by omega, ⟨below_drewN' HB.out _⟩⟩
        case measure => simp [intOf]; omega
    · go_wp2
      have HB1 := HB
      clear HB n0 n1 m0 m1
      obtain ⟨wo, rfl⟩ : ∃ wo : World, wo = wr := ⟨_, rfl⟩
      go_loopw [47] (fun v47 wr => ∃ i : Nat, v47 = .int .i64 (i : Int) ∧ i ≤ n.joints.length ∧ Aside0 (Below W0.heap.size W0 wr)) (fun v47 _ => n.joints.length - (intOf v47).toNat)
      case atStart => exact ⟨0, rfl, Nat.zero_le _, HB1⟩
      case round =>
        clear HB1
        obtain ⟨q, rfl, hq, HB⟩ := hrel
        have n0 := (HN.out.below HB.out).c 0 _ rfl; have n1 := (HN.out.below HB.out).c 1 _ rfl; have m0 := (HM.out.below HB.out).c 0 _ rfl; have m1 := (HM.out.below HB.out).c 1 _ rfl
        by_cases hlq : q < n.joints.length
        · obtain ⟨ad0, B0, d0, e0, x0, x1, x2, _, hC0⟩ := at_Joint (Kd.C_below HU.out.2.1 HB.out) q hlq
          obtain ⟨ad1, B1, d1, e1, y0, y1, y2, _, hC1⟩ := at_Joint (Kd.C_below HV.out.2.1 HB.out) q hlq
          simp only at e0 e1
          subst e0 e1
          have hxs := hs _ (getD_mem n.joints q hlq)
          obtain ⟨p, hp⟩ : ∃ p, p = n.joints.getD q default := ⟨_, rfl⟩
          rw [← hp] at x0 x1 x2 y0 y1 y2 hC0 hC1 hxs
          have hml := hC0.2.1
          have C0 := Aside0.mk hC0
          have C1 := Aside0.mk hC1
          have hi0 : (0 : Int) ≤ (q : Int) := by omega
          have hi1 : (q : Int) < (n.joints.length : Int) := by omega
          have hz1 : w.heap.size + 1 < wr.heap.size := (HM.out.below HB.out).lt
          have bal := below_alloc (Below.refl wr.heap.size wr) (.cells #[.int .i64 p.kind, .string p.name, .slice B0 p.ends.length d0] 139)
          have y0a := pw_cell_below bal y0
          have y1a := pw_cell_below bal y1
          have y2a := pw_cell_below bal y2
          clear hp hC0 hC1 bal
          go_wp2
          obtain ⟨W5, hW5, hP, hQ, fb5, _⟩ := box2 wr [.int .i64 p.kind, .string p.name, .slice B0 p.ends.length d0] [.int .i64 p.kind, .string p.name, .slice B1 p.ends.length d1] 139 139
          have HP := Aside0.mk hP
          have HQ := Aside0.mk hQ
          have B5 := Aside0.mk (show Below W0.heap.size W0 W5 from below_more HB.out fb5)
          have C05 := Aside0.mk (Kd.C_below C0.out fb5)
          have C15 := Aside0.mk (Kd.C_below C1.out fb5)
          obtain ⟨g0, hg0⟩ : ∃ g, g = wr.heap.size := ⟨_, rfl⟩
          rw [← hg0] at HP HQ
          try rw [← hg0]
          have HG0 := Aside0.mk hg0
          have HW5 := Aside0.mk hW5
          try rw [← hW5]
          clear hP hQ fb5 hW5 y0a y1a y2a x0 x1 x2 y0 y1 y2 n0 n1 m0 m1 C0 C1 hz1 hg0
          obtain ⟨wq, rfl⟩ : ∃ wq : World, wq = wr := ⟨_, rfl⟩
          go_loopw [84] (fun v84 wr => ∃ z : Nat, v84 = .int .i64 (z : Int) ∧ z ≤ p.ends.length ∧ Aside0 (Below W5.heap.size W5 wr)) (fun v84 _ => p.ends.length - (intOf v84).toNat)
          case atStart => exact ⟨0, rfl, Nat.zero_le _, ⟨by first | exact Below.refl _ _ | (rw [HW5.out]; exact Below.refl _ _)⟩⟩
          case round =>
            obtain ⟨z, rfl, hz, HB5⟩ := hrel
            have j2 := (HP.out.below HB5.out).c 2 _ rfl
            have k2 := (HQ.out.below HB5.out).c 2 _ rfl
            by_cases hlz : z < p.ends.length
            · obtain ⟨ae0, e0, x0, x1⟩ := at_End (Kd.C_below C05.out HB5.out) z hlz
              obtain ⟨ae1, e1, y0, y1⟩ := at_End (Kd.C_below C15.out HB5.out) z hlz
              subst e0 e1
              obtain ⟨e, he⟩ : ∃ e, e = p.ends.getD z default := ⟨_, rfl⟩
              rw [← he] at x0 x1 y0 y1
              have hz0 : (0 : Int) ≤ (z : Int) := by omega
              have hz1 : (z : Int) < (p.ends.length : Int) := by omega
              clear he
              go_wp2
              go_quiet (fail)
              all_goals
                go_wp2
                go_roundw
                case rel => exact ⟨z + 1, by go_num, by omega, ⟨below_drewN' HB5.out _⟩⟩
                case measure => simp [intOf]; omega
            · go_wp2
              go_roundw
              case rel => exact ⟨q + 1, by go_num, by omega, ⟨below_lo B5.out HB5.out B5.out.size⟩⟩
              case measure => simp [intOf]; omega
        · go_wp2
          go_ret
          exact ⟨rfl, below_lo fb.out HB.out (by have := fb.out.size; omega)⟩
theorem nets_of (code : List Int) (A : Option Addr) (c : Nat) (n : NetT) (w : World) (hr : Kd.C (Kd.int .u8) w A code.length code) (hg : GCode code) (hn : n = netG code) :
    Calls Try.prog 33 #[.slice A code.length c] w
      fun e w' => ∃ u : (Option Addr × Nat) × (Option Addr × Nat), e = .returned (.agg #[.slice u.1.1 n.pieces.length u.1.2, .slice u.2.1 n.joints.length u.2.2]) ∧ RdNet 67 w' u n ∧ Below w.heap.size w w' := by
  subst hn; exact nets_any code A c w hr hg
theorem nameG_size (i : Nat) (h : i ≤ 1000) : (nameG i).size ≤ 1002 := by
  have h1 : (nameG i).size = (nameL i).length := by show (nameL i).toArray.size = _; simp
  have := decL_len i
  rw [h1]
  unfold nameL
  simp only [List.length_cons]
  omega
theorem netG_fits (code : List Int) : NetFits (netG code) := by
  have hP := piecesN_bd code
  have hl : (netG code).pieces.length = piecesN code := genPs_len code
  have hJ := netG_joints code
  have hE := netG_ends code
  have hEl := genEs_len code
  have hj : ∀ x ∈ (netG code).joints, x.ends.length ≤ 18 ∧ x.name.size ≤ 1002 := fun x hx => by
    obtain ⟨i, hi, he⟩ := List.getElem_of_mem hx
    obtain ⟨es, q, h1, h2, h3⟩ := netG_joint code hi
    rw [getD_at _ _ hi, he] at h3
    have hm := sum_mem_le (fun j : JointT => j.ends.length) (netG code).joints x hx
    have hfl : ((netG code).joints.map (fun j : JointT => j.ends.length)).sum = (allEnds (netG code)).length := by unfold allEnds; rw [List.length_flatMap]
    rw [hfl, hE, hEl] at hm
    refine ⟨by omega, ?_⟩
    rw [h3]
    unfold jointG
    simp only
    split
    · exact nameG_size _ (by omega)
    · show (0 : Nat) ≤ 1002; omega
  refine ⟨by omega, by omega, fun x hx => by have := (hj x hx).1; omega, by rw [hE, hEl]; omega, fun x hx => ?_, fun x hx => by have := (hj x hx).2; omega⟩
  obtain ⟨i, hi, he⟩ := List.getElem_of_mem hx
  obtain ⟨k, hk⟩ := genPieces_at code (pickV code 4 0) 2 (piecesN code) i (by omega)
  have hk2 : (netG code).pieces.getD i default = (genPiece code (pickV code 4 0) i k).1 := hk
  rw [getD_at _ _ hi, he] at hk2
  rw [hk2, (genPiece_is code (pickV code 4 0) i k).1]
  have := nameG_size i (by omega)
  omega
theorem netG_small (code : List Int) : (netG code).pieces.length ≤ 9 ∧ ∀ p : Int, 0 ≤ p → p < ((netG code).pieces.length : Int) → lenP (netG code) p ≤ 300 := by
  have hP := piecesN_bd code
  have hl : (netG code).pieces.length = piecesN code := genPs_len code
  refine ⟨by omega, fun p h0 h1 => ?_⟩
  obtain ⟨k, hk⟩ := genPieces_at code (pickV code 4 0) 2 (piecesN code) p.toNat (by omega)
  have hk2 : (netG code).pieces.getD p.toNat default = (genPiece code (pickV code 4 0) p.toNat k).1 := hk
  unfold lenP
  rw [hk2]
  exact (genPiece_is code (pickV code 4 0) p.toNat k).2.2.1
end Go.Proofs.Ytckcffjnffcjcaa
