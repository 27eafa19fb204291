/- Contract of the reference's NetOk: the first fault of a net. Conditions: what Go's own sizes give, and at most 1048576 ends in joints. -/
import Derived.Test.YtckcffjnffcjcaaNet2
set_option linter.unusedVariables false
set_option linter.unusedSimpArgs false
namespace Go.Proofs.Ytckcffjnffcjcaa
open Go.RowKit Go.Proofs.YtckcffjnffcjcaaW.PrintWords
def badPiece (n : NetT) (i : Nat) : Bool := !pieceB (n.pieces.getD i default) || (n.pieces.take i).any (fun x => decide (x.name = (n.pieces.getD i default).name))
def badUse (n : NetT) (i : Nat) : Bool := decide (uses n ⟨i, 0⟩ ≠ 1) || decide (uses n ⟨i, 1⟩ ≠ 1)
def tooMany (n : NetT) : Bool := n.pieces.length == 0 || decide (100 < n.pieces.length) || decide (120 < n.joints.length)
/-- The first fault of a net: its code and its place. -/
def netFault (n : NetT) : Int × Int :=
  if tooMany n = true then (1, 0)
  else match (List.range n.pieces.length).find? (badPiece n) with
  | some i => (2, i)
  | none => match (List.range n.joints.length).find? (fun i => jointCode n i == 3) with
    | some i => (3, i)
    | none => match (List.range n.joints.length).find? (fun i => jointCode n i == 4) with
      | some i => (4, i)
      | none => match (List.range n.pieces.length).find? (badUse n) with
        | some i => (5, i)
        | none => (0, 0)
theorem netFault1 {n : NetT} (h : tooMany n = true) : netFault n = (1, 0) := if_pos h
theorem netFault2 {n : NetT} (h : tooMany n = false) {i : Nat} (h2 : (List.range n.pieces.length).find? (badPiece n) = some i) : netFault n = (2, (i : Int)) := by
  unfold netFault; rw [if_neg (by rw [h]; simp), h2]
theorem netFault3 {n : NetT} (h : tooMany n = false) (h2 : (List.range n.pieces.length).find? (badPiece n) = none) {i : Nat} (h3 : (List.range n.joints.length).find? (fun i => jointCode n i == 3) = some i) : netFault n = (3, (i : Int)) := by
  unfold netFault; rw [if_neg (by rw [h]; simp), h2, h3]
theorem netFault4 {n : NetT} (h : tooMany n = false) (h2 : (List.range n.pieces.length).find? (badPiece n) = none) (h3 : (List.range n.joints.length).find? (fun i => jointCode n i == 3) = none) {i : Nat} (h4 : (List.range n.joints.length).find? (fun i => jointCode n i == 4) = some i) : netFault n = (4, (i : Int)) := by
  unfold netFault; rw [if_neg (by rw [h]; simp), h2, h3, h4]
theorem netFault5 {n : NetT} (h : tooMany n = false) (h2 : (List.range n.pieces.length).find? (badPiece n) = none) (h3 : (List.range n.joints.length).find? (fun i => jointCode n i == 3) = none) (h4 : (List.range n.joints.length).find? (fun i => jointCode n i == 4) = none) {i : Nat} (h5 : (List.range n.pieces.length).find? (badUse n) = some i) : netFault n = (5, (i : Int)) := by
  unfold netFault; rw [if_neg (by rw [h]; simp), h2, h3, h4, h5]
theorem netFault0 {n : NetT} (h : tooMany n = false) (h2 : (List.range n.pieces.length).find? (badPiece n) = none) (h3 : (List.range n.joints.length).find? (fun i => jointCode n i == 3) = none) (h4 : (List.range n.joints.length).find? (fun i => jointCode n i == 4) = none) (h5 : (List.range n.pieces.length).find? (badUse n) = none) : netFault n = (0, 0) := by
  unfold netFault; rw [if_neg (by rw [h]; simp), h2, h3, h4, h5]
def codeNone (n : NetT) (c : Int) : Prop := (List.range n.joints.length).find? (fun i => jointCode n i == c) = none
theorem netFault34 {n : NetT} (h : tooMany n = false) (h2 : (List.range n.pieces.length).find? (badPiece n) = none) {c : Int} (hc3 : 3 ≤ c) (hc4 : c ≤ 4) (hp : ∀ c', 3 ≤ c' → c' < c → codeNone n c') {i : Nat} (h3 : (List.range n.joints.length).find? (fun i => jointCode n i == c) = some i) : netFault n = (c, (i : Int)) := by
  by_cases e : c = 3
  · subst e; exact netFault3 h h2 h3
  · have e4 : c = 4 := by omega
    subst e4; exact netFault4 h h2 (hp 3 (by omega) (by omega)) h3
set_option maxRecDepth 100000 in
set_option maxHeartbeats 2000000 in
theorem specNetOk_any (n : NetT) (u : (Option Addr × Nat) × (Option Addr × Nat)) (w : World) (hr : RdNet 67 w u n) (hs : ∀ x ∈ n.joints, x.name.size ≤ 9223372036854775807) (hps : ∀ x ∈ n.pieces, x.name.size ≤ 9223372036854775807) (hb : (allEnds n).length ≤ 1048576) :
    Calls Try.prog 42 #[.agg #[.slice u.1.1 n.pieces.length u.1.2, .slice u.2.1 n.joints.length u.2.2]] w
      fun e w' => e = .returned (.agg #[.int .i64 (netFault n).1, .int .i64 (netFault n).2]) ∧ Below w.heap.size w w' := by
  have hm := hr.2.1.2.1
  have hpm := hr.1.1.2.1
  have HRN := Aside0.mk hr
  have HRJ := Aside0.mk hr.2.1
  have HRP := Aside0.mk hr.1.1
  have HS := Aside0.mk hs
  have HPS := Aside0.mk hps
  clear hr hs hps
  obtain ⟨⟨A0, c0⟩, ⟨A1, c1⟩⟩ := u
  obtain ⟨W0, hW0⟩ : ∃ W0 : World, W0 = (w.alloc (.cells #[.slice A0 n.pieces.length c0, .slice A1 n.joints.length c1] 35)).alloc (.cells #[.int .i64 0, .int .i64 0] 55) := ⟨_, rfl⟩
  have HN : Aside0 (Bx W0 w.heap.size [.slice A0 n.pieces.length c0, .slice A1 n.joints.length c1]) := ⟨by rw [hW0]; exact (Bx.new w [.slice A0 n.pieces.length c0, .slice A1 n.joints.length c1] 35).alloc _⟩
  have HX : Aside0 (Bx W0 (w.heap.size + 1) [.int .i64 0, .int .i64 0]) := ⟨by
    have := Bx.new (w.alloc (.cells #[.slice A0 n.pieces.length c0, .slice A1 n.joints.length c1] 35)) [.int .i64 0, .int .i64 0] 55
    rw [hW0]; simpa using this⟩
  have fb := Aside0.mk (show Below w.heap.size w W0 by rw [hW0]; exact below_two _ _ _)
  have HW := Aside0.mk hW0
  clear hW0
  by_cases h0 : n.pieces.length = 0
  · have z0 : ((n.pieces.length : Int) == 0) = true := by rw [h0]; rfl
    have HT := Aside0.mk (netFault1 (n := n) (by unfold tooMany; simp [h0]))
    clear h0
    go_enter Try.func42, Try.ntmps42
    go_wp2
    refine bodyPost_ret (v := .agg #[.int .i64 1, .int .i64 0]) (by simp [results, Try.results42, go_sem]) rfl ⟨by rw [HT.out], below_two _ _ _⟩
  have z0 : ((n.pieces.length : Int) == 0) = false := by simpa using h0
  by_cases h1 : 100 < n.pieces.length
  · have HT := Aside0.mk (netFault1 (n := n) (by unfold tooMany; simp [h1]))
    go_enter Try.func42, Try.ntmps42
    go_wp2
    refine bodyPost_ret (v := .agg #[.int .i64 1, .int .i64 0]) (by simp [results, Try.results42, go_sem]) rfl ⟨by rw [HT.out], below_two _ _ _⟩
  by_cases h2 : 120 < n.joints.length
  · have HT := Aside0.mk (netFault1 (n := n) (by unfold tooMany; simp [h2]))
    go_enter Try.func42, Try.ntmps42
    go_wp2
    refine bodyPost_ret (v := .agg #[.int .i64 1, .int .i64 0]) (by simp [results, Try.results42, go_sem]) rfl ⟨by rw [HT.out], below_two _ _ _⟩
  have HT : Aside0 (tooMany n = false) := ⟨by unfold tooMany; simp [h0, h1, h2]⟩
  go_enter Try.func42, Try.ntmps42
  go_wp2
  rw [← HW.out]
  have t1 : n.pieces.length ≤ 100 := by omega
  have t2 : n.joints.length ≤ 120 := by omega
  clear h0 h1 h2 z0
  go_loopw [30] (fun v30 wr => ∃ i : Nat, v30 = .int .i64 i ∧ i ≤ n.pieces.length ∧ Aside0 (∀ k, k < i → badPiece n k = false) ∧ Aside0 (Below W0.heap.size W0 wr)) (fun v30 _ => n.pieces.length - (intOf v30).toNat)
  case atStart => exact ⟨0, rfl, Nat.zero_le _, ⟨fun k hk => by omega⟩, ⟨Below.refl _ _⟩⟩
  case round =>
    obtain ⟨i, rfl, hi, HI, HB⟩ := hrel
    have HNr := Aside0.mk (HN.out.below HB.out)
    have HXr := Aside0.mk (HX.out.below HB.out)
    have n0 := HNr.out.c 0 _ rfl
    have n1 := HNr.out.c 1 _ rfl
    have x0 := HXr.out.c 0 _ rfl
    have x1 := HXr.out.c 1 _ rfl
    have xf0 := HXr.out.f 0
    have xf1 := HXr.out.f 1
    have as1 := HXr.out.lt
    have as0 := HNr.out.lt
    by_cases hlt : i < n.pieces.length
    · obtain ⟨ad0, e0, y0, y1, y2, y3⟩ := at_Piece HRP.out i hlt
      have HBw := Aside0.mk (below_more fb.out HB.out)
      replace y0 := pw_cell_below HBw.out y0
      replace y1 := pw_cell_below HBw.out y1
      replace y2 := pw_cell_below HBw.out y2
      replace y3 := pw_cell_below HBw.out y3
      have hpn := HPS.out _ (getD_mem n.pieces i hlt)
      obtain ⟨p, hp⟩ : ∃ p, p = n.pieces.getD i default := ⟨_, rfl⟩
      rw [← hp] at y0 y1 y2 y3 hpn
      have HP := Aside0.mk hp
      clear hp
      subst e0
      cases hpb : pieceB p with
      | false =>
        have HT2 := Aside0.mk (netFault2 HT.out (find_first (p := badPiece n) hlt (by unfold badPiece; rw [← HP.out, hpb]; rfl) HI.out))
        have HPB := Aside0.mk hpb
        clear hpb
        go_wp2_with (first | (go_at_call 118; refine (l1name_any _ _ hpn).mono ?_; rintro e w3 ⟨rfl, rfl⟩) | (go_at_call 119; refine (l1in_any _ _ _ _).mono ?_; rintro e w3 ⟨rfl, rfl⟩))
        all_goals first
          | (exfalso; have := HPB.out; unfold pieceB at this; simp_all; done)
          | (refine bodyPost_ret (v := .agg #[.int .i64 2, .int .i64 i]) (by simp [results, Try.results42, go_sem, x0, x1, as1]) rfl ⟨by rw [HT2.out], ?_⟩
             repeat (first | (with_reducible exact HBw.out) | (with_reducible refine below_set ?_ (by omega)) | (with_reducible refine below_alloc ?_ _)))
      | true =>
        have HPB := Aside0.mk hpb
        have hpb2 := hpb
        unfold pieceB at hpb2
        simp only [Bool.and_eq_true] at hpb2
        obtain ⟨⟨⟨g1, g2⟩, g3⟩, g4⟩ := hpb2
        clear hpb
        go_wp2_with (first | (go_at_call 118; refine (l1name_any _ _ hpn).mono ?_; rintro e w3 ⟨rfl, rfl⟩) | (go_at_call 119; refine (l1in_any _ _ _ _).mono ?_; rintro e w3 ⟨rfl, rfl⟩))
        clear n0 n1 x0 x1 xf0 xf1 as1 as0 y0 y1 y2 y3 g1 g2 g3 g4
        obtain ⟨W1, hW1⟩ : ∃ W1 : World, W1 = wr.alloc (.cells #[.string p.name, .int .i64 p.len, .int .i64 p.speed, .int .i64 p.brake] 78) := ⟨_, rfl⟩
        have HL : Aside0 (Bx W1 wr.heap.size [.string p.name, .int .i64 p.len, .int .i64 p.speed, .int .i64 p.brake]) := ⟨by rw [hW1]; exact Bx.new wr _ 78⟩
        have HN1 : Aside0 (Bx W1 w.heap.size [.slice (some ad0) n.pieces.length c0, .slice A1 n.joints.length c1]) := ⟨by rw [hW1]; exact HNr.out.alloc _⟩
        have HX1 : Aside0 (Bx W1 (w.heap.size + 1) [.int .i64 0, .int .i64 0]) := ⟨by rw [hW1]; exact HXr.out.alloc _⟩
        have HB1 : Aside0 (Below w.heap.size w W1) := ⟨by rw [hW1]; exact below_alloc HBw.out _⟩
        have HB0 : Aside0 (Below W0.heap.size W0 W1) := ⟨by rw [hW1]; exact below_alloc HB.out _⟩
        rw [← hW1]
        clear hW1
        go_loopw [5] (fun v5 wq => ∃ k : Nat, v5 = .int .i64 k ∧ k ≤ i ∧ Aside0 ((n.pieces.take k).any (fun x => decide (x.name = p.name)) = false) ∧ Aside0 (Below W1.heap.size W1 wq)) (fun v5 _ => i - (intOf v5).toNat)
        case atStart => exact ⟨0, rfl, Nat.zero_le _, ⟨by simp⟩, ⟨Below.refl _ _⟩⟩
        case round =>
          obtain ⟨k, rfl, hki, HK, HBq⟩ := hrel
          have HBqw := Aside0.mk (below_more HB1.out HBq.out)
          have HLq := Aside0.mk (HL.out.below HBq.out)
          have HNq := Aside0.mk (HN1.out.below HBq.out)
          have HXq := Aside0.mk (HX1.out.below HBq.out)
          have n0 := HNq.out.c 0 _ rfl
          have x0 := HXq.out.c 0 _ rfl
          have x1 := HXq.out.c 1 _ rfl
          have xf0 := HXq.out.f 0
          have xf1 := HXq.out.f 1
          have as1 := HXq.out.lt
          have l0 := HLq.out.c 0 _ rfl
          by_cases hkt : k < i
          · have hkn : k < n.pieces.length := by omega
            obtain ⟨ad2, e2, z0, z1, z2, z3⟩ := at_Piece HRP.out k hkn
            injection e2 with e2
            subst e2
            clear z1 z2 z3
            replace z0 := pw_cell_below HBqw.out z0
            obtain ⟨y, hy⟩ : ∃ y, y = n.pieces.getD k default := ⟨_, rfl⟩
            rw [← hy] at z0
            have HY := Aside0.mk hy
            clear hy
            have hr0 : (0 : Int) ≤ (k : Int) := by omega
            have hr1 : (k : Int) < (n.pieces.length : Int) := by omega
            cases hd : (y.name.toList == p.name.toList) with
            | true =>
              have HD := Aside0.mk hd
              have HT2 := Aside0.mk (netFault2 HT.out (find_first (p := badPiece n) hlt (by
                unfold badPiece
                rw [any_stop (f := fun x => decide (x.name = (n.pieces.getD i default).name)) hkn hkt (by rw [← HY.out, ← HP.out]; exact decide_eq_true (toList_inj.1 (by simpa using HD.out)))]
                simp) HI.out))
              go_wp2
              go_quiet (fail)
              go_wp2
              refine bodyPost_ret (v := .agg #[.int .i64 2, .int .i64 i]) (by simp [results, Try.results42, go_sem, x0, x1, as1]) rfl ⟨by rw [HT2.out], ?_⟩
              repeat (first | (with_reducible exact HBqw.out) | (with_reducible refine below_set ?_ (by omega)) | (with_reducible refine below_alloc ?_ _) | (with_reducible refine below_drewN' ?_ _))
            | false =>
              have HD := Aside0.mk hd
              go_wp2
              go_quiet (fail)
              go_wp2
              go_roundw
              case rel => exact ⟨k + 1, by go_num, by omega, ⟨any_step hkn HK.out (by rw [← HY.out]; exact decide_eq_false (fun h => by have := HD.out; rw [h] at this; simp at this))⟩, ⟨below_drewN' HBq.out _⟩⟩
              case measure => simp [intOf]; omega
          · have hbp : badPiece n i = false := by
              unfold badPiece
              have h6 := HK.out
              rw [show k = i from by omega] at h6
              rw [← HP.out, HPB.out, h6]; rfl
            have HBP := Aside0.mk hbp
            clear hbp
            go_wp2
            go_roundw
            case rel => exact ⟨i + 1, by go_num, by omega, ⟨upto_step HI.out HBP.out⟩, ⟨below_more HB0.out HBq.out⟩⟩
            case measure => simp [intOf]; omega
    · have HI2 := Aside0.mk (find_none (p := badPiece n) (n := n.pieces.length) (fun k hk => HI.out k (by omega)))
      go_wp2
      clear n0 n1 x0 x1 xf0 xf1 as1 as0
      go_loopw [6] (fun v6 wc => ∃ c : Int, v6 = .int .i64 c ∧ 3 ≤ c ∧ c ≤ 5 ∧ Aside0 (∀ c', 3 ≤ c' → c' < c → codeNone n c') ∧ Aside0 (Below W0.heap.size W0 wc)) (fun v6 _ => 5 - (intOf v6).toNat)
      case atStart => exact ⟨3, rfl, by omega, by omega, ⟨fun c h1 h2 => by omega⟩, HB⟩
      case round =>
        obtain ⟨c, rfl, hc3, hc5, HC, HBc⟩ := hrel
        clear HNr HXr HB
        have HNr := Aside0.mk (HN.out.below HBc.out)
        have HXr := Aside0.mk (HX.out.below HBc.out)
        have n0 := HNr.out.c 0 _ rfl
        have n1 := HNr.out.c 1 _ rfl
        by_cases hc4 : c ≤ 4
        · go_wp2
          clear n0 n1
          go_loopw [83] (fun v83 wj => ∃ i : Nat, v83 = .int .i64 i ∧ i ≤ n.joints.length ∧ Aside0 (∀ k, k < i → (jointCode n k == c) = false) ∧ Aside0 (Below W0.heap.size W0 wj)) (fun v83 _ => n.joints.length - (intOf v83).toNat)
          case atStart => exact ⟨0, rfl, Nat.zero_le _, ⟨fun k hk => by omega⟩, HBc⟩
          case round =>
            obtain ⟨i, rfl, hi, HJI, HBj⟩ := hrel
            clear HNr HXr
            have HNr := Aside0.mk (HN.out.below HBj.out)
            have HXr := Aside0.mk (HX.out.below HBj.out)
            have HBw := Aside0.mk (below_more fb.out HBj.out)
            have n0 := HNr.out.c 0 _ rfl
            have n1 := HNr.out.c 1 _ rfl
            by_cases hlt : i < n.joints.length
            · cases hd : (jointCode n i == c) with
              | true =>
                have HT2 := Aside0.mk (netFault34 HT.out HI2.out hc3 hc4 HC.out (find_first hlt hd HJI.out))
                go_wp2_with (go_at_call 120; refine (l1joint_any n ((A0, c0), (A1, c1)) i _ (HRN.out.below HBw.out) hlt HS.out).mono ?_; rintro e w3 ⟨rfl, hb3⟩; have HB3 := Aside0.mk (below_more HBw.out hb3); have HX3 := Aside0.mk (HXr.out.below hb3); clear hb3; have x0 := HX3.out.c 0 _ rfl; have x1 := HX3.out.c 1 _ rfl; have xf0 := HX3.out.f 0; have xf1 := HX3.out.f 1; have as1 := HX3.out.lt)
                refine bodyPost_ret (v := .agg #[.int .i64 c, .int .i64 i]) (by simp [results, Try.results42, go_sem, x0, x1, as1]) rfl ⟨by rw [HT2.out], ?_⟩
                repeat (first | (with_reducible exact HB3.out) | (with_reducible refine below_set ?_ (by omega)) | (with_reducible refine below_alloc ?_ _))
              | false =>
                have HD := Aside0.mk hd
                go_wp2_with (go_at_call 120; refine (l1joint_any n ((A0, c0), (A1, c1)) i _ (HRN.out.below HBw.out) hlt HS.out).mono ?_; rintro e w3 ⟨rfl, hb3⟩; have HB3 := Aside0.mk (below_more HBj.out hb3); clear hb3)
                go_roundw
                case rel => exact ⟨i + 1, by go_num, by omega, ⟨upto_step HJI.out HD.out⟩, HB3⟩
                case measure => simp [intOf]; omega
            · have HJN := Aside0.mk (find_none (p := fun i => jointCode n i == c) (n := n.joints.length) (fun k hk => HJI.out k (by omega)))
              go_wp2
              go_roundw
              case rel => exact ⟨c + 1, by go_num, by omega, by omega, ⟨fun c' h1 h2 => by
                by_cases e : c' = c
                · rw [e]; exact HJN.out
                · exact HC.out c' h1 (by omega)⟩, HBj⟩
              case measure => simp [intOf]; omega
        · have hc : c = 5 := by omega
          subst hc
          have HJ3 := Aside0.mk (HC.out 3 (by omega) (by omega))
          have HJ4 := Aside0.mk (HC.out 4 (by omega) (by omega))
          go_wp2
          clear n0 n1
          go_loopw [98] (fun v98 wp => ∃ i : Nat, v98 = .int .i64 i ∧ i ≤ n.pieces.length ∧ Aside0 (∀ k, k < i → badUse n k = false) ∧ Aside0 (Below W0.heap.size W0 wp)) (fun v98 _ => n.pieces.length - (intOf v98).toNat)
          case atStart => exact ⟨0, rfl, Nat.zero_le _, ⟨fun k hk => by omega⟩, HBc⟩
          case round =>
            obtain ⟨i, rfl, hi, HUI, HBp⟩ := hrel
            clear HNr HXr
            have HXr := Aside0.mk (HX.out.below HBp.out)
            have HBw := Aside0.mk (below_more fb.out HBp.out)
            by_cases hlt : i < n.pieces.length
            · go_wp2
              go_loopw [9] (fun v9 ws => ∃ q : Nat, v9 = .int .i64 q ∧ q ≤ 2 ∧ Aside0 (∀ k : Nat, k < q → uses n ⟨i, k⟩ = 1) ∧ Aside0 (Below W0.heap.size W0 ws)) (fun v9 _ => 2 - (intOf v9).toNat)
              case atStart => exact ⟨0, rfl, by omega, ⟨fun k hk => by omega⟩, HBp⟩
              case round =>
                obtain ⟨q, rfl, hq, HQ, HBs⟩ := hrel
                clear HXr HBw
                have HNr := Aside0.mk (HN.out.below HBs.out)
                have HXr := Aside0.mk (HX.out.below HBs.out)
                have HBw := Aside0.mk (below_more fb.out HBs.out)
                have n0 := HNr.out.c 0 _ rfl
                have n1 := HNr.out.c 1 _ rfl
                by_cases hqt : q < 2
                · cases hd : ((uses n ⟨i, q⟩ : Int) != 1) with
                  | true =>
                    have HT2 := Aside0.mk (netFault5 HT.out HI2.out HJ3.out HJ4.out (find_first (p := badUse n) hlt (by
                      unfold badUse
                      have h7 : uses n ⟨i, q⟩ ≠ 1 := fun h => by rw [h] at hd; simp at hd
                      have : q = 0 ∨ q = 1 := by omega
                      rcases this with rfl | rfl
                      · have : uses n ⟨i, 0⟩ ≠ 1 := h7
                        simp [this]
                      · have : uses n ⟨i, 1⟩ ≠ 1 := h7
                        simp [this]) HUI.out))
                    go_wp2_with (go_at_call 121; refine (l1uses_any n ((A0, c0), (A1, c1)) ⟨i, q⟩ _ (HRN.out.below HBw.out) hb).mono ?_; rintro e w3 ⟨rfl, hb3⟩; have HB3 := Aside0.mk (below_more HBw.out hb3); have HX3 := Aside0.mk (HXr.out.below hb3); clear hb3; have x0 := HX3.out.c 0 _ rfl; have x1 := HX3.out.c 1 _ rfl; have xf0 := HX3.out.f 0; have xf1 := HX3.out.f 1; have as1 := HX3.out.lt)
                    refine bodyPost_ret (v := .agg #[.int .i64 5, .int .i64 i]) (by simp [results, Try.results42, go_sem, x0, x1, as1]) rfl ⟨by rw [HT2.out], ?_⟩
                    repeat (first | (with_reducible exact HB3.out) | (with_reducible refine below_set ?_ (by omega)) | (with_reducible refine below_alloc ?_ _))
                  | false =>
                    have HD := Aside0.mk (show uses n ⟨i, q⟩ = 1 by simp at hd; omega)
                    go_wp2_with (go_at_call 121; refine (l1uses_any n ((A0, c0), (A1, c1)) ⟨i, q⟩ _ (HRN.out.below HBw.out) hb).mono ?_; rintro e w3 ⟨rfl, hb3⟩; have HB3 := Aside0.mk (below_more HBs.out hb3); clear hb3)
                    go_roundw
                    case rel => exact ⟨q + 1, by go_num, by omega, ⟨upto_step HQ.out HD.out⟩, HB3⟩
                    case measure => simp [intOf]; omega
                · have HU := Aside0.mk (show badUse n i = false by
                    unfold badUse
                    have h0 := HQ.out 0 (by omega)
                    have h1 := HQ.out 1 (by omega)
                    have h0' : uses n ⟨i, 0⟩ = 1 := h0
                    have h1' : uses n ⟨i, 1⟩ = 1 := h1
                    simp [h0', h1'])
                  go_wp2
                  go_roundw
                  case rel => exact ⟨i + 1, by go_num, by omega, ⟨upto_step HUI.out HU.out⟩, HBs⟩
                  case measure => simp [intOf]; omega
            · have HT2 := Aside0.mk (netFault0 HT.out HI2.out HJ3.out HJ4.out (find_none (p := badUse n) (n := n.pieces.length) (fun k hk => HUI.out k (by omega))))
              have x0 := HXr.out.c 0 _ rfl
              have x1 := HXr.out.c 1 _ rfl
              have xf0 := HXr.out.f 0
              have xf1 := HXr.out.f 1
              have as1 := HXr.out.lt
              go_wp2
              refine bodyPost_ret (v := .agg #[.int .i64 0, .int .i64 0]) (by simp [results, Try.results42, go_sem, x0, x1, as1]) rfl ⟨by rw [HT2.out], ?_⟩
              repeat (first | (with_reducible exact HBw.out) | (with_reducible refine below_set ?_ (by omega)) | (with_reducible refine below_alloc ?_ _))
end Go.Proofs.Ytckcffjnffcjcaa
