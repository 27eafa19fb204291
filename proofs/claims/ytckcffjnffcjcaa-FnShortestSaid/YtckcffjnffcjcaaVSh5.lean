/- Texts of this work, of each what the claim leans on: Gen5, DrvLaws, Ways, Dr1, Dr2, Dr3, Dr4. No conditions. -/
import Derived.Test.YtckcffjnffcjcaaVSh4
import Derived.Outline
set_option linter.unusedVariables false
set_option linter.unusedSimpArgs false
namespace Go.Proofs.Ytckcffjnffcjcaa
open Go.RowKit Go.Proofs.YtckcffjnffcjcaaW.PrintWords
set_option maxRecDepth 100000 in
set_option maxHeartbeats 2000000 in
theorem nets_any (code : List Int) (A : Option Addr) (c : Nat) (w : World) (hr : Kd.C (Kd.int .u8) w A code.length code) (hg : GCode code) :
    Calls Try.prog 33 #[.slice A code.length c] w
      fun e w' => ∃ u : (Option Addr × Nat) × (Option Addr × Nat), e = .returned (.agg #[.slice u.1.1 (netG code).pieces.length u.1.2, .slice u.2.1 (netG code).joints.length u.2.2]) ∧ RdNet 67 w' u (netG code) ∧ Below w.heap.size w w' := by
  obtain ⟨W2, hW2⟩ : ∃ W2, W2 = (w.alloc (.cells #[.slice none 0 0, .slice none 0 0] 35)).alloc (.cells #[.slice A code.length c, .int .i64 0, .int .u64 0] 135) := ⟨_, rfl⟩
  have hs2 : W2.heap.size = w.heap.size + 1 + 1 := by rw [hW2]; simp
  have fb : Below w.heap.size w W2 := by rw [hW2]; exact below_two _ _ _
  have HX : Aside0 (Bx W2 (w.heap.size + 1) (curV code A c 0)) := ⟨by rw [hW2]; exact Bx.new' _ [.slice A code.length c, .int .i64 0, .int .u64 0] 135 (by simp)⟩
  have HZ : Aside0 (Bx W2 w.heap.size [.slice none 0 0, .slice none 0 0]) := ⟨by rw [hW2]; exact (Bx.new w _ 35).alloc _⟩
  have HR := Aside0.mk hr
  have HB := Aside0.mk fb
  have HW := Aside0.mk hW2
  have HS := Aside0.mk hs2
  clear hr fb hW2 hs2
  go_enter Try.func33, Try.ntmps33
  go_wp2_with fail
  rw [← HW.out]
  refine (net_any code A c (w.heap.size + 1) w W2 HR.out hg HB.out (by omega) HX.out).mono ?_
  rintro e w5 ⟨pv, jv, rfl, hp, hj, hx, hk, hb⟩
  obtain ⟨pA, pc, rfl⟩ := Kd.R_slice hp
  obtain ⟨jA, jc, rfl⟩ := Kd.R_slice hj
  have Z5 := HZ.out.kept hk (by omega)
  have z0 := Z5.c 0 _ rfl; have z1 := Z5.c 1 _ rfl; have zf0 := Z5.f 0; have zf1 := Z5.f 1; have zlt := Z5.lt
  have HP := Aside0.mk hp
  have HJ := Aside0.mk hj
  have HB5 := Aside0.mk hb
  clear hp hj hx hk hb Z5
  go_wp2_with fail
  refine bodyPost_ret (v := .agg #[.slice pA (netG code).pieces.length pc, .slice jA (netG code).joints.length jc]) (by simp [results, Try.results33, go_sem, z0, z1, zf0, zf1, zlt]) rfl ⟨((pA, pc), (jA, jc)), rfl, ?_, ?_⟩
  · obtain ⟨_, h1, h2⟩ := Kd.R_reads' (R_apart (R_apart HP.out (p := ⟨w.heap.size, 0, none⟩) (by show w.heap.size < _; have := HS.out; omega) (.slice pA (netG code).pieces.length pc)) (p := ⟨w.heap.size, 1, none⟩) (by show w.heap.size < _; have := HS.out; omega) (.slice jA (netG code).joints.length jc))
    obtain ⟨_, h3, h4⟩ := Kd.R_reads' (R_apart (R_apart HJ.out (p := ⟨w.heap.size, 0, none⟩) (by show w.heap.size < _; have := HS.out; omega) (.slice pA (netG code).pieces.length pc)) (p := ⟨w.heap.size, 1, none⟩) (by show w.heap.size < _; have := HS.out; omega) (.slice jA (netG code).joints.length jc))
    exact ⟨⟨h2, h1⟩, ⟨h4, h3⟩⟩
  · exact below_set (below_set HB5.out (Nat.le_refl _)) (Nat.le_refl _)
set_option maxRecDepth 100000 in
set_option maxHeartbeats 4000000 in
theorem aspot_any (n : NetT) (u : (Option Addr × Nat) × (Option Addr × Nat)) (code : List Int) (A : Option Addr) (c : Nat) (w : World) (hr : RdNet 67 w u n) (hn : Good n) (hc : Kd.C (Kd.int .u8) w A code.length code) (hg : GCode code) :
    Calls Try.prog 34 #[.agg #[.slice u.1.1 n.pieces.length u.1.2, .slice u.2.1 n.joints.length u.2.2], .slice A code.length c] w
      fun e w' => e = .returned (.agg #[.int .i64 (spotG n code).piece, .int .i64 (spotG n code).at_, .int .i64 (spotG n code).way]) ∧ Below w.heap.size w w' := by
  obtain ⟨⟨A0, c0⟩, ⟨A1, c1⟩⟩ := u
  simp only
  obtain ⟨W2, hW2⟩ : ∃ W2, W2 = ((w.alloc (.cells #[.slice A0 n.pieces.length c0, .slice A1 n.joints.length c1] 35)).alloc (.cells #[.int .i64 0, .int .i64 0, .int .i64 0] 38)).alloc (.cells #[.slice A code.length c, .int .i64 0, .int .u64 0] 135) := ⟨_, rfl⟩
  have hs2 : W2.heap.size = w.heap.size + 1 + 1 + 1 := by rw [hW2]; simp
  have fb : Below w.heap.size w W2 := by rw [hW2]; exact below_three _ _ _ _
  have HX : Aside0 (Bx W2 (w.heap.size + 1 + 1) (curV code A c 0)) := ⟨by rw [hW2]; exact Bx.new' _ [.slice A code.length c, .int .i64 0, .int .u64 0] 135 (by simp)⟩
  have HN : Aside0 (Bx W2 w.heap.size [.slice A0 n.pieces.length c0, .slice A1 n.joints.length c1]) := ⟨by rw [hW2]; exact ((Bx.new w _ 35).alloc _).alloc _⟩
  have HZ : Aside0 (Bx W2 (w.heap.size + 1) [.int .i64 0, .int .i64 0, .int .i64 0]) := ⟨by rw [hW2]; exact (Bx.new' _ _ 38 (by simp)).alloc _⟩
  have HR := Aside0.mk hr
  have HC := Aside0.mk hc
  have HB := Aside0.mk fb
  have HW := Aside0.mk hW2
  have hp0 := hn.p0
  have hp1 := hn.p1
  have hpk := pickV_bd code (n := (n.pieces.length : Int)) (by omega) 0
  obtain ⟨p, hp⟩ := Int.eq_ofNat_of_zero_le hpk.1
  have hlt : p < n.pieces.length := by omega
  have hlen := hn.len hpk.1 hpk.2
  obtain ⟨L, hL⟩ : ∃ L, L = lenP n (pickV code (n.pieces.length : Int) 0) := ⟨_, rfl⟩
  rw [← hL] at hlen
  obtain ⟨ad0, e0, y0, y1, y2, y3⟩ := at_Piece hr.1.1 p hlt
  simp only at e0
  subst e0
  have hL2 : (n.pieces.getD p default).len = L := by rw [hL]; unfold lenP; rw [hp, Int.toNat_natCast]
  rw [hL2] at y1
  obtain ⟨K1, hK1⟩ : ∃ K, K = pickK (n.pieces.length : Int) 0 := ⟨_, rfl⟩
  have hk1 : K1 ≤ 2 := by rw [hK1]; unfold pickK; split <;> (try split) <;> omega
  have hwb := wideV_bd code (n := L + 1) (by omega) K1
  have hvb := pickV_bd code (n := 2) (by omega) (K1 + 2)
  obtain ⟨q1, hq1⟩ : ∃ q, q = wideV code (L + 1) K1 := ⟨_, rfl⟩
  obtain ⟨q2, hq2⟩ : ∃ q, q = pickV code 2 (K1 + 2) := ⟨_, rfl⟩
  have HV : Aside0 (spotG n code = ⟨(p : Int), q1, 1 - 2 * q2⟩) := ⟨by unfold spotG; rw [← hK1, ← hL, hp, hq1, hq2]⟩
  rw [← hq1] at hwb
  rw [← hq2] at hvb
  have HP := Aside0.mk hp
  have HQ1 := Aside0.mk hq1
  have HQ2 := Aside0.mk hq2
  have HK1 := Aside0.mk hK1
  have Y1 := Aside0.mk y1
  have hi0 : (0 : Int) ≤ (p : Int) := by omega
  have hi1 : (p : Int) < (n.pieces.length : Int) := by omega
  clear hr hc fb hW2 hp hL hL2 y0 y1 y2 y3 hq1 hq2 hK1 hpk hn
  go_enter Try.func34, Try.ntmps34
  go_wp2_with fail
  rw [← HW.out]
  have n0 := HN.out.c 0 _ rfl
  go_wp2_with fail
  refine (pick_any code A c (w.heap.size + 1 + 1) 0 (n.pieces.length : Int) w W2 HC.out hg HB.out (by omega) HX.out (by omega) (by omega)).mono ?_
  rintro e w3 ⟨rfl, hx1, hk2, hb1⟩
  rw [HP.out]
  rw [← HK1.out] at hx1
  have X3 := Aside0.mk hx1
  have B3 := Aside0.mk hb1
  have N3 := Aside0.mk (HN.out.kept hk2 (by omega))
  have Z3 := Aside0.mk (HZ.out.kept hk2 (by omega))
  have y3 := pw_cell_below hb1 Y1.out
  clear hx1 hk2 hb1 n0
  have n0 := N3.out.c 0 _ rfl
  go_wp2_with fail
  refine (wide_any code A c (w.heap.size + 1 + 1) K1 (L + 1) w _ HC.out hg B3.out (by omega) X3.out (by omega) (by omega) (by omega)).mono ?_
  rintro e w4 ⟨rfl, hx1, hk2, hb1⟩
  rw [← HQ1.out]
  have X4 := Aside0.mk hx1
  have B4 := Aside0.mk hb1
  have Z4 := Aside0.mk (Z3.out.kept hk2 (by omega))
  clear hx1 hk2 hb1 n0 y3
  go_wp2_with fail
  refine (pick_any code A c (w.heap.size + 1 + 1) (K1 + 2) 2 w _ HC.out hg B4.out (by omega) X4.out (by omega) (by omega)).mono ?_
  rintro e w5 ⟨rfl, hx1, hk2, hb1⟩
  rw [← HQ2.out]
  have B5 := Aside0.mk hb1
  have Z5 := Aside0.mk (Z4.out.kept hk2 (by omega))
  have z0 := Z5.out.c 0 _ rfl; have z1 := Z5.out.c 1 _ rfl; have z2 := Z5.out.c 2 _ rfl; have zf0 := Z5.out.f 0; have zf1 := Z5.out.f 1; have zf2 := Z5.out.f 2; have zlt := Z5.out.lt
  clear hx1 hk2 hb1
  go_wp2_with fail
  refine bodyPost_ret (v := .agg #[.int .i64 p, .int .i64 q1, .int .i64 (1 - 2 * q2)]) (by simp [results, Try.results34, go_sem, z0, z1, z2, zf0, zf1, zf2, zlt]) rfl ⟨by rw [HV.out], ?_⟩
  repeat (first | (with_reducible exact B5.out) | (with_reducible refine below_set ?_ (show w.heap.size ≤ w.heap.size + 1 by omega)))
theorem drop_getD {α : Type} [Inhabited α] (l : List α) (i : Nat) (h : i < l.length) : l.drop i = l.getD i default :: l.drop (i + 1) := by
  rw [List.drop_eq_getElem_cons h, getD_at l i h]
set_option maxRecDepth 100000 in
set_option maxHeartbeats 4000000 in
theorem lies_any (n : NetT) (u : (Option Addr × Nat) × (Option Addr × Nat)) (code : List Int) (A : Option Addr) (c : Nat) (w : World) (hr : RdNet 67 w u n) (hj : n.joints.length ≤ 120) (hc : Kd.C (Kd.int .u8) w A code.length code) (hg : GCode code) :
    Calls Try.prog 35 #[.agg #[.slice u.1.1 n.pieces.length u.1.2, .slice u.2.1 n.joints.length u.2.2], .slice A code.length c] w
      fun e w' => ∃ v, e = .returned v ∧ Kd.R (Kd.int .i64) 3 w' w.heap.size (fun _ => True) v (liesG n code) ∧ Below w.heap.size w w' := by
  obtain ⟨⟨A0, c0⟩, ⟨A1, c1⟩⟩ := u
  simp only
  obtain ⟨W2, hW2⟩ : ∃ W2, W2 = (w.alloc (.cells #[.slice A0 n.pieces.length c0, .slice A1 n.joints.length c1] 35)).alloc (.cells #[.slice A code.length c, .int .i64 0, .int .u64 0] 135) := ⟨_, rfl⟩
  have hs2 : W2.heap.size = w.heap.size + 1 + 1 := by rw [hW2]; simp
  have fb : Below w.heap.size w W2 := by rw [hW2]; exact below_two _ _ _
  have HX : Aside0 (Bx W2 (w.heap.size + 1) (curV code A c 0)) := ⟨by rw [hW2]; exact Bx.new' _ [.slice A code.length c, .int .i64 0, .int .u64 0] 135 (by simp)⟩
  have HN : Aside0 (Bx W2 w.heap.size [.slice A0 n.pieces.length c0, .slice A1 n.joints.length c1]) := ⟨by rw [hW2]; exact (Bx.new w _ 35).alloc _⟩
  have HR := Aside0.mk hr.2.1
  have HC := Aside0.mk hc
  have HB := Aside0.mk fb
  have HW := Aside0.mk hW2
  have hm := hr.2.1.2.1
  obtain ⟨B, hBB⟩ : ∃ B, B = w.heap.size + 1 + 1 := ⟨_, rfl⟩
  have HBB := Aside0.mk hBB
  have HS2 := Aside0.mk hs2
  have n1 := HN.out.c 1 _ rfl
  clear hr hc fb hW2 hs2 hBB
  go_enter Try.func35, Try.ntmps35
  go_wp2_with fail
  rw [← HW.out]
  go_wp2_with fail
  clear n1
  go_loopw [6, 16] (fun v6 v16 wr => ∃ (i k : Nat) (out : List Int) (OA : Option Addr) (oc : Nat), v16 = .int .i64 (i : Int) ∧ v6 = .slice OA out.length oc ∧ i ≤ n.joints.length ∧ out.length = i ∧ k ≤ i ∧ Aside0 (out ++ liesL code (n.joints.drop i) k = liesG n code) ∧ Aside0 (Kd.R (Kd.int .i64) 3 wr B (fun _ => True) (.slice OA out.length oc) out) ∧ Aside0 (Bx wr (w.heap.size + 1) (curV code A c k)) ∧ Aside0 (Below w.heap.size w wr) ∧ B ≤ wr.heap.size) (fun _ v16 _ => n.joints.length - (intOf v16).toNat)
  case atStart => exact ⟨0, 0, [], none, 0, rfl, rfl, Nat.zero_le _, rfl, Nat.le_refl _, ⟨rfl⟩, ⟨Kd.R_nil ..⟩, HX, HB, by rw [HS2.out, HBB.out]; exact Nat.le_refl _⟩
  case round =>
    clear HX HB HN
    obtain ⟨i, k, out, OA, oc, rfl, rfl, hi, hol, hki, HL, HO, HX, HB, hBs⟩ := hrel
    by_cases hlt : i < n.joints.length
    · obtain ⟨ad0, A2, c2, e0, y0, y1, y2, _, _⟩ := at_Joint HR.out i hlt
      subst e0
      replace y0 := pw_cell_below HB.out y0
      replace y1 := pw_cell_below HB.out y1
      replace y2 := pw_cell_below HB.out y2
      obtain ⟨J, hJ⟩ : ∃ J, J = n.joints.getD i default := ⟨_, rfl⟩
      rw [← hJ] at y0 y1 y2
      have HD := Aside0.mk (drop_getD n.joints i hlt)
      rw [← hJ] at HD
      have HOL := Aside0.mk hol
      clear hJ hol
      go_upto_if 22 with (fail)
      have hsz1 := HBB.out
      obtain ⟨W5, hW5⟩ : ∃ W5, W5 = wr.alloc (.cells #[.int .i64 J.kind, .string J.name, .slice A2 J.ends.length c2] 139) := ⟨_, rfl⟩
      have B5 : Aside0 (Below w.heap.size w W5) := ⟨by rw [hW5]; exact below_alloc HB.out _⟩
      have X5 : Aside0 (Bx W5 (w.heap.size + 1) (curV code A c k)) := ⟨by rw [hW5]; exact HX.out.alloc _⟩
      have O5 : Aside0 (Kd.R (Kd.int .i64) 3 W5 B (fun _ => True) (.slice OA out.length oc) out) := ⟨by rw [hW5]; exact Kd.R_alloc HO.out _⟩
      have hs5 : B ≤ W5.heap.size := by rw [hW5]; simp; omega
      rw [← hW5]
      clear hW5
      have hpb := pickV_bd code (n := 2) (by omega) k
      go_cut [9] (fun s9 W => ∃ (x : Int) (k' : Nat), s9 = .int .i64 x ∧ k' ≤ i + 1 ∧ Aside0 (liesL code (J :: n.joints.drop (i + 1)) k = x :: liesL code (n.joints.drop (i + 1)) k') ∧ Aside0 (Kd.R (Kd.int .i64) 3 W B (fun _ => True) (.slice OA out.length oc) out) ∧ Aside0 (Bx W (w.heap.size + 1) (curV code A c k')) ∧ Aside0 (Below w.heap.size w W) ∧ B ≤ W.heap.size)
      case first =>
        by_cases hk3 : J.kind = 3
        · have hkt : (J.kind == 3) = true := by simpa using hk3
          have HV : Aside0 (liesL code (J :: n.joints.drop (i + 1)) k = (1 + pickV code 2 k) :: liesL code (n.joints.drop (i + 1)) (k + 1)) := ⟨by simp only [liesL]; rw [if_pos hk3]⟩
          clear hk3
          obtain ⟨q, hq⟩ : ∃ q, q = pickV code 2 k := ⟨_, rfl⟩
          rw [← hq] at hpb HV
          have HQ := Aside0.mk hq
          clear hq
          go_wp2_with fail
          refine (pick_any code A c (w.heap.size + 1) k 2 w _ HC.out hg B5.out (by omega) X5.out (by omega) (by omega)).mono ?_
          rintro e w6 ⟨rfl, hx1, hk2, hb1⟩
          rw [← HQ.out]
          rw [pickK_1 (by omega) (by omega)] at hx1
          have X6 := Aside0.mk hx1
          have B6 := Aside0.mk hb1
          have O6 := Aside0.mk (R_keptL O5.out hk2 (by omega))
          have hs6 : B ≤ w6.heap.size := Nat.le_trans hs5 hk2.1
          clear hx1 hk2 hb1
          go_wp2_with fail
          go_meet
          case rel => exact ⟨1 + q, k + 1, rfl, by omega, HV, O6, X6, B6, hs6⟩
        · have hkt : (J.kind == 3) = false := by simpa using hk3
          have HV : Aside0 (liesL code (J :: n.joints.drop (i + 1)) k = 0 :: liesL code (n.joints.drop (i + 1)) k) := ⟨by simp only [liesL]; rw [if_neg hk3]⟩
          clear hk3
          go_wp2_with fail
          go_meet
          case rel => exact ⟨0, k, rfl, by omega, HV, O5, X5, B5, hs5⟩
      case rest =>
      clear B5 X5 O5 hs5 y0 y1 y2
      obtain ⟨x, k', rfl, hk', HV, O6, X6, B6, hs6⟩ := hcut
      have hol2 := HOL.out
      have hlen : (out.length + 1) * 8 ≤ 140737488355328 := by omega
      clear hol2
      have hsz2 : w.heap.size + 1 < B := by omega
      go_wp2_with ((with_reducible refine gate_callG (b := .append) (xs := #[.tmp 26, .tmp 28]) rfl ?_); at_builtin; refine Kd.R_append (Kd.int .i64) (w0 := wc) B rfl (.tmp 26) (.tmp 28) 40 3 (.int .i64 0) 8 rfl Try.underlying40 info3 rfl (by decide) (by omega) (.slice OA out.length oc) out x [.int .i64 x] (fun _ => True) (fun _ => False) rfl (by first | (go_simp; done) | (go_simp; rfl)) rfl (fun _ hk => hk.elim) (fun _ _ => trivial) O6.out (Below.refl _ _) hs6 hlen ?_; intro v1 w9 hR9 hB9 hG9 hat9; obtain ⟨oA, oc1, rfl⟩ := Kd.R_slice hR9; have hR9' := Aside0.mk hR9; have hB9' := Aside0.mk hB9; have hG9' := Aside0.mk hG9; have X9 := Aside0.mk (X6.out.grownB hG9 (fun he => by have := Kd.R_base O6.out _ he.symm; omega)); clear hR9 hB9 hG9 hat9)
      go_roundw
      case rel =>
        have hol3 := HOL.out
        refine ⟨i + 1, k', out ++ [x], oA, oc1, by go_num, ?_, by omega, by simp [hol3], hk', ⟨?_⟩, ⟨hR9'.out⟩, X9, ⟨below_lo B6.out hB9'.out (by omega)⟩, Nat.le_trans hs6 hG9'.out.size⟩
        · first | rfl | simp
        · rw [← HL.out, HD.out, HV.out, List.append_assoc]; rfl
      case measure => simp [intOf]; omega
    · have hie : i = n.joints.length := by omega
      have HR2 : Aside0 (out = liesG n code) := ⟨by rw [← HL.out, List.drop_of_length_le (by omega)]; simp [liesL]⟩
      clear hie
      go_wp2_with fail
      go_ret
      refine ⟨_, rfl, ?_, HB.out⟩
      rw [← HR2.out]
      exact Kd.R_lower HO.out (by have := HBB.out; omega)
end Go.Proofs.Ytckcffjnffcjcaa
namespace Go.Proofs.Ytckcffjnffcjcaa
section
variable {n : NetT} {lies : List Int}
theorem stopAt_zero {s : SpotT} {left c j : Int} (h : stopAt n lies s left = some (c, j)) (hc : c = 0) : legOf n s left = left ∧ j = -1 := by
  unfold stopAt at h
  split at h
  · simp only [Option.some.injEq, Prod.mk.injEq] at h
    exact ⟨by omega, h.2.symm⟩
  · split at h
    · rename_i h2
      simp only [Option.some.injEq, Prod.mk.injEq] at h
      exact absurd (h.1.trans hc) h2
    · cases h
theorem stopAt_more {s : SpotT} {left : Int} (h : left - legOf n s left ≠ 0) {b : Int} (hb : 0 ≤ b) : legOf n s (left + b) = legOf n s left ∧ stopAt n lies s (left + b) = stopAt n lies s left := by
  have e : legOf n s (left + b) = legOf n s left := by unfold legOf at *; omega
  refine ⟨e, ?_⟩
  have : left + b - legOf n s left ≠ 0 := by unfold legOf at *; omega
  unfold stopAt
  rw [e, if_neg this, if_neg h]
theorem stopAt_left {s : SpotT} {left : Int} (h : stopAt n lies s left = none ∨ ∃ c j, stopAt n lies s left = some (c, j) ∧ c ≠ 0) : left - legOf n s left ≠ 0 := by
  intro h2
  unfold stopAt at h
  rw [if_pos h2] at h
  rcases h with h | ⟨c, j, h, hc⟩
  · cases h
  · simp only [Option.some.injEq, Prod.mk.injEq] at h
    exact hc h.1.symm
def DrvT.told (d : DrvT) : Int × Int × Int × SpotT := (d.code, d.far, d.joint, d.spot)
def shiftT (f : Int) (d : Int × Int × Int × SpotT) : Int × Int × Int × SpotT := (d.1, f + d.2.1, d.2.2.1, d.2.2.2)
theorem told_stop {s : SpotT} {left c j : Int} (h : stopAt n lies s left = some (c, j)) (k : Nat) : (drv n lies k s left).told = (c, legOf n s left, j, moveS s (legOf n s left)) := by rw [drv_stop h]; rfl
theorem told_full {s : SpotT} {left : Int} (h : stopAt n lies s left = none) : (drv n lies 0 s left).told = (5, legOf n s left, (atEnd n (headE s)).1, moveS s (legOf n s left)) := by rw [drv_full h]; rfl
theorem told_on {s : SpotT} {left : Int} (h : stopAt n lies s left = none) (k : Nat) : (drv n lies (k + 1) s left).told = shiftT (legOf n s left) (drv n lies k (enterS n (overL n lies (headE s)).2) (left - legOf n s left)).told := by rw [drv_on h]; rfl
theorem drv_far : ∀ (k : Nat) (s : SpotT) (a : Int), (drv n lies k s a).code = 0 → (drv n lies k s a).far = a
  | k, s, a, hc => by
    cases hst : stopAt n lies s a with
    | some cj =>
      obtain ⟨c, j⟩ := cj
      rw [drv_stop hst] at hc ⊢
      exact (stopAt_zero hst hc).1
    | none =>
      cases k with
      | zero => rw [drv_full hst] at hc; cases hc
      | succ k =>
        rw [drv_on hst] at hc ⊢
        have := drv_far k _ _ hc
        simp only
        omega
theorem over_ok (hg : Good n) (hl : liesB n lies = true) {s : SpotT} (hs : spotB n s = true) {left : Int} (hst : stopAt n lies s left = none) : (overL n lies (headE s)).1 = 0 ∧ endB n (overL n lies (headE s)).2 = true ∧ spotB n (enterS n (overL n lies (headE s)).2) = true := by
  unfold stopAt at hst
  split at hst
  · cases hst
  · split at hst
    · cases hst
    · rename_i h
      have h0 : (overL n lies (headE s)).1 = 0 := Decidable.byContradiction h
      have := (hg.across (headE_ok hs) (hg.over hl (headE_ok hs) h0)).1
      exact ⟨h0, this, enterS_ok hg this⟩
theorem legOf_bd (hg : Good n) {s : SpotT} (hs : spotB n s = true) {left : Int} (h0 : 0 ≤ left) : 0 ≤ legOf n s left ∧ legOf n s left ≤ roomS n s ∧ legOf n s left ≤ left := by
  have := roomS_bd hg hs
  unfold legOf; omega
theorem drv_spot (hg : Good n) (hl : liesB n lies = true) : ∀ (k : Nat) (s : SpotT) (a : Int), spotB n s = true → 0 ≤ a → spotB n (drv n lies k s a).spot = true ∧ 0 ≤ (drv n lies k s a).far ∧ (drv n lies k s a).far ≤ a
  | k, s, a, hs, h0 => by
    have hb := legOf_bd hg hs h0
    have hm := moveS_ok hs hb.1 hb.2.1
    cases hst : stopAt n lies s a with
    | some cj =>
      obtain ⟨c, j⟩ := cj
      rw [drv_stop hst]
      exact ⟨hm, hb.1, hb.2.2⟩
    | none =>
      cases k with
      | zero => rw [drv_full hst]; exact ⟨hm, hb.1, hb.2.2⟩
      | succ k =>
        rw [drv_on hst]
        have := drv_spot hg hl k _ (a - legOf n s a) (over_ok hg hl hs hst).2.2 (by omega)
        simp only
        exact ⟨this.1, by omega, by omega⟩
theorem drv_split (hg : Good n) (hl : liesB n lies = true) : ∀ (k : Nat) (s : SpotT) (a : Int), spotB n s = true → 0 ≤ a → (drv n lies k s a).code = 0 →
    ∃ o, o ≤ k ∧ ∀ b, 0 ≤ b → (drv n lies k s (a + b)).told = shiftT a (drv n lies (k - o) (drv n lies k s a).spot b).told
  | k, s, a, hs, h0, hc => by
    have hb := legOf_bd hg hs h0
    cases hst : stopAt n lies s a with
    | some cj =>
      obtain ⟨c, j⟩ := cj
      rw [drv_stop hst] at hc ⊢
      have hla := (stopAt_zero hst hc).1
      rw [hla] at hb
      simp only
      rw [hla]
      refine ⟨0, by omega, fun b hb0 => ?_⟩
      rw [Nat.sub_zero]
      have hr := moveS_room hs a
      have e1 : legOf n (moveS s a) b = legOf n s (a + b) - a := by unfold legOf; rw [hr]; omega
      have e2 : stopAt n lies (moveS s a) b = stopAt n lies s (a + b) := by
        unfold stopAt
        rw [e1, moveS_head, show b - (legOf n s (a + b) - a) = a + b - legOf n s (a + b) by omega]
      have e3 : moveS (moveS s a) (legOf n s (a + b) - a) = moveS s (legOf n s (a + b)) := by rw [moveS_add]; congr 1; omega
      cases hst2 : stopAt n lies s (a + b) with
      | some cj =>
        obtain ⟨c, j⟩ := cj
        rw [told_stop hst2, told_stop (e2.trans hst2), e1, e3]
        unfold shiftT
        simp only [Prod.mk.injEq, true_and, and_true]
        omega
      | none =>
        cases k with
        | zero =>
          rw [told_full hst2, told_full (e2.trans hst2), e1, e3, moveS_head]
          unfold shiftT
          simp only [Prod.mk.injEq, true_and, and_true]
          omega
        | succ k =>
          rw [told_on hst2, told_on (e2.trans hst2), e1, moveS_head, show b - (legOf n s (a + b) - a) = a + b - legOf n s (a + b) by omega]
          unfold shiftT
          simp only [Prod.mk.injEq, true_and, and_true]
          omega
    | none =>
      cases k with
      | zero => rw [drv_full hst] at hc; cases hc
      | succ k =>
        rw [drv_on hst] at hc ⊢
        simp only at hc ⊢
        obtain ⟨o, ho, hq⟩ := drv_split hg hl k _ (a - legOf n s a) (over_ok hg hl hs hst).2.2 (by omega) hc
        refine ⟨o + 1, by omega, fun b hb0 => ?_⟩
        obtain ⟨e1, e2⟩ := stopAt_more (lies := lies) (stopAt_left (lies := lies) (.inl hst)) hb0
        rw [told_on (e2.trans hst), e1, show a + b - legOf n s a = a - legOf n s a + b by omega, hq b hb0, show k + 1 - (o + 1) = k - o by omega]
        unfold shiftT
        simp only [Prod.mk.injEq, true_and, and_true]
        omega
def DrvT.behind (d : DrvT) (f : Int) (ps : List PartT) : DrvT := ⟨d.code, f + d.far, d.joint, d.spot, ps ++ d.parts⟩
theorem behind_none (d : DrvT) : d.behind 0 [] = d := by unfold DrvT.behind; simp
theorem drv_move (hg : Good n) {s : SpotT} (hs : spotB n s = true) {left : Int} (h0 : 0 < legOf n s left) (k : Nat) :
    drv n lies k s left = (drv n lies k (moveS s (legOf n s left)) (left - legOf n s left)).behind (legOf n s left) [partOf s (legOf n s left)] := by
  have hr := moveS_room hs (legOf n s left)
  have e1 : legOf n (moveS s (legOf n s left)) (left - legOf n s left) = 0 := by
    have : legOf n s left = min (roomS n s) left := rfl
    unfold legOf at hr ⊢
    rw [hr]; omega
  have e2 : stopAt n lies (moveS s (legOf n s left)) (left - legOf n s left) = stopAt n lies s left := by
    unfold stopAt
    rw [e1, moveS_head, Int.sub_zero]
  have ep : partsOf s (legOf n s left) = [partOf s (legOf n s left)] := if_pos h0
  have ep2 : ∀ q, partsOf q 0 = [] := fun q => if_neg (by omega)
  cases hst : stopAt n lies s left with
  | some cj =>
    obtain ⟨c, j⟩ := cj
    rw [drv_stop hst, drv_stop (e2.trans hst), e1, moveS_zero, ep, ep2]
    unfold DrvT.behind; simp
  | none =>
    cases k with
    | zero =>
      rw [drv_full hst, drv_full (e2.trans hst), e1, moveS_zero, ep, ep2, moveS_head]
      unfold DrvT.behind; simp
    | succ k =>
      rw [drv_on hst, drv_on (e2.trans hst), e1, ep, ep2, moveS_head, Int.sub_zero]
      unfold DrvT.behind; simp
theorem drv_joint {s : SpotT} (hr : roomS n s = 0) {left : Int} (h0 : 0 < left) (k : Nat) :
    drv n lies k s left = if (overL n lies (headE s)).1 ≠ 0 then ⟨(overL n lies (headE s)).1, 0, (atEnd n (headE s)).1, s, []⟩
      else match k with | 0 => ⟨5, 0, (atEnd n (headE s)).1, s, []⟩ | k + 1 => drv n lies k (enterS n (overL n lies (headE s)).2) left := by
  have e : legOf n s left = 0 := by unfold legOf; rw [hr]; omega
  have ep2 : ∀ q, partsOf q 0 = [] := fun q => if_neg (by omega)
  by_cases hc : (overL n lies (headE s)).1 ≠ 0
  · have h : stopAt n lies s left = some ((overL n lies (headE s)).1, (atEnd n (headE s)).1) := by
      unfold stopAt; rw [e, if_neg (by omega), if_pos hc]
    rw [drv_stop h, e, moveS_zero, ep2, if_pos hc]
  · have h : stopAt n lies s left = none := by unfold stopAt; rw [e, if_neg (by omega), if_neg hc]
    rw [if_neg hc]
    cases k with
    | zero => rw [drv_full h, e, moveS_zero, ep2]
    | succ k =>
      rw [drv_on h, e, ep2, Int.sub_zero]
      simp
def sumP (l : List PartT) : Int := (l.map fun p => p.upto - p.frm).sum
inductive Leg (n : NetT) (lies : List Int) : SpotT → Nat → Int → SpotT → Prop
  | move {s : SpotT} {r : Int} : 0 ≤ r → r ≤ roomS n s → Leg n lies s 0 r (moveS s r)
  | over {s t : SpotT} {e : EndT} {m : Nat} {f : Int} : overL n lies (headE s) = (0, e) → 0 < f → Leg n lies (enterS n e) m f t → Leg n lies s (m + 1) (roomS n s + f) t
theorem drv_leg (hg : Good n) (hl : liesB n lies = true) : ∀ (k : Nat) (s : SpotT) (a : Int), spotB n s = true → 0 < a → (0 < roomS n s ∨ (drv n lies k s a).far ≠ 0) → ∃ m, m ≤ k ∧ Leg n lies s m (drv n lies k s a).far (drv n lies k s a).spot
  | k, s, a, hs, h0, hr => by
    have hb := legOf_bd hg hs (Int.le_of_lt h0)
    cases hst : stopAt n lies s a with
    | some cj =>
      obtain ⟨c, j⟩ := cj
      rw [drv_stop hst]
      exact ⟨0, by omega, .move hb.1 hb.2.1⟩
    | none =>
      have hne := stopAt_left (lies := lies) (.inl hst)
      have hroom : legOf n s a = roomS n s := by unfold legOf at *; omega
      cases k with
      | zero => rw [drv_full hst]; exact ⟨0, by omega, .move hb.1 hb.2.1⟩
      | succ k =>
        obtain ⟨o1, o2, o3⟩ := over_ok hg hl hs hst
        have hroom2 := enterS_room hg o2
        have he := endB_iff.1 o2
        have hlen := hg.len he.1 he.2.1
        obtain ⟨m, hm, hL⟩ := drv_leg hg hl k _ (a - legOf n s a) o3 (by omega) (.inl (by rw [hroom2]; omega))
        rw [drv_on hst]
        simp only
        have hpos : 0 < (Go.Proofs.Ytckcffjnffcjcaa.drv n lies k (enterS n (overL n lies (headE s)).2) (a - legOf n s a)).far := by
          have hq := legOf_bd hg o3 (left := a - legOf n s a) (by omega)
          have hq2 : 0 < legOf n (enterS n (overL n lies (headE s)).2) (a - legOf n s a) := by
            unfold legOf; rw [hroom2]; unfold legOf at *; omega
          rw [drv_move hg o3 hq2 k]
          have := (drv_spot hg hl k (moveS (enterS n (overL n lies (headE s)).2) (legOf n (enterS n (overL n lies (headE s)).2) (a - legOf n s a))) (a - legOf n s a - legOf n (enterS n (overL n lies (headE s)).2) (a - legOf n s a)) (moveS_ok o3 hq.1 hq.2.1) (by omega)).2.1
          unfold DrvT.behind
          simp only
          omega
        refine ⟨m + 1, by omega, ?_⟩
        rw [hroom]
        rw [hroom] at hL hpos
        exact .over (Prod.ext o1 rfl) hpos hL
theorem over_end (hg : Good n) (hl : liesB n lies = true) {s : SpotT} (hs : spotB n s = true) {x : EndT} (ho : overL n lies (headE s) = (0, x)) : endB n x = true := by
  have := hg.over hl (headE_ok hs) (by rw [ho])
  rw [ho] at this
  exact (hg.across (headE_ok hs) this).1
end
end Go.Proofs.Ytckcffjnffcjcaa
namespace Go.Proofs.Ytckcffjnffcjcaa
def lookS (s : StepT) : EndT := ⟨s.piece, if s.way = 1 then 1 else 0⟩
def comesS (e : EndT) : StepT := ⟨e.piece, if e.side = 0 then 1 else -1⟩
def beginS (s : StepT) : EndT := ⟨s.piece, if s.way = 1 then 0 else 1⟩
def outS (e : EndT) : StepT := ⟨e.piece, if e.side = 0 then -1 else 1⟩
def stepB (n : NetT) (s : StepT) : Bool := inB s.piece 0 ((n.pieces.length : Int) - 1) && (s.way == 1 || s.way == -1)
theorem stepB_iff {n : NetT} {s : StepT} : stepB n s = true ↔ 0 ≤ s.piece ∧ s.piece < (n.pieces.length : Int) ∧ (s.way = 1 ∨ s.way = -1) := by
  unfold stepB
  simp only [Bool.and_eq_true, Bool.or_eq_true, beq_iff_eq, inB_true]
  omega
theorem lookS_ok {n : NetT} {s : StepT} (h : stepB n s = true) : endB n (lookS s) = true := by
  have := stepB_iff.1 h
  rw [endB_iff]
  unfold lookS
  refine ⟨this.1, this.2.1, ?_, ?_⟩ <;> (simp only; split <;> omega)
theorem beginS_ok {n : NetT} {s : StepT} (h : stepB n s = true) : endB n (beginS s) = true := by
  have := stepB_iff.1 h
  rw [endB_iff]
  unfold beginS
  refine ⟨this.1, this.2.1, ?_, ?_⟩ <;> (simp only; split <;> omega)
theorem comesS_ok {n : NetT} {e : EndT} (h : endB n e = true) : stepB n (comesS e) = true := by
  have := endB_iff.1 h
  rw [stepB_iff]
  unfold comesS
  refine ⟨this.1, this.2.1, ?_⟩
  simp only
  split <;> simp
theorem outS_ok {n : NetT} {e : EndT} (h : endB n e = true) : stepB n (outS e) = true := by
  have := endB_iff.1 h
  rw [stepB_iff]
  unfold outS
  refine ⟨this.1, this.2.1, ?_⟩
  simp only
  split <;> simp
theorem comes_begin {n : NetT} {s : StepT} (h : stepB n s = true) : comesS (beginS s) = s := by
  have := stepB_iff.1 h
  obtain ⟨p, w⟩ := s
  unfold comesS beginS
  simp only at this ⊢
  rcases this.2.2 with rfl | rfl <;> rfl
theorem begin_comes {n : NetT} {e : EndT} (h : endB n e = true) : beginS (comesS e) = e := by
  have := endB_iff.1 h
  obtain ⟨p, w⟩ := e
  unfold comesS beginS
  simp only at this ⊢
  have : w = 0 ∨ w = 1 := by omega
  rcases this with rfl | rfl <;> rfl
theorem look_out {n : NetT} {e : EndT} (h : endB n e = true) : lookS (outS e) = e := by
  have := endB_iff.1 h
  obtain ⟨p, w⟩ := e
  unfold outS lookS
  simp only at this ⊢
  have : w = 0 ∨ w = 1 := by omega
  rcases this with rfl | rfl <;> rfl
theorem out_look {n : NetT} {s : StepT} (h : stepB n s = true) : outS (lookS s) = s := by
  have := stepB_iff.1 h
  obtain ⟨p, w⟩ := s
  unfold outS lookS
  simp only at this ⊢
  rcases this.2.2 with rfl | rfl <;> rfl
def succS (n : NetT) (s : StepT) : List StepT := (acrossE n (lookS s)).map comesS
theorem succ_ok {n : NetT} (hg : Good n) {s t : StepT} (hs : stepB n s = true) (h : t ∈ succS n s) : stepB n t = true := by
  unfold succS at h
  obtain ⟨e, he, rfl⟩ := List.mem_map.1 h
  exact comesS_ok (hg.across (lookS_ok hs) he).1
theorem succ_iff {n : NetT} (hg : Good n) {s t : StepT} (hs : stepB n s = true) (ht : stepB n t = true) : s ∈ succS n t ↔ lookS t ∈ acrossE n (beginS s) := by
  unfold succS
  constructor
  · intro h
    obtain ⟨e, he, rfl⟩ := List.mem_map.1 h
    have := hg.across (lookS_ok ht) he
    rw [begin_comes this.1]
    exact this.2.2
  · intro h
    have := hg.across (beginS_ok hs) h
    exact List.mem_map.2 ⟨beginS s, this.2.2, comes_begin hs⟩
def lenS (n : NetT) (s : StepT) : Int := lenP n s.piece
theorem Good.lenS {n : NetT} (hg : Good n) {s : StepT} (h : stepB n s = true) : 1 ≤ lenS n s ∧ lenS n s ≤ 10000000 := by
  have := stepB_iff.1 h
  exact hg.len this.1 this.2.1
def Follows (n : NetT) : StepT → List StepT → Prop
  | _, [] => True
  | s, t :: l => t ∈ succS n s ∧ Follows n t l
def lastS (s : StepT) : List StepT → StepT
  | [] => s
  | t :: l => lastS t l
theorem lastS_snoc (s : StepT) (l : List StepT) (t : StepT) : lastS s (l ++ [t]) = t := by
  induction l generalizing s with
  | nil => rfl
  | cons a l ih => exact ih a
theorem follows_snoc {n : NetT} (s : StepT) (l : List StepT) (t : StepT) : Follows n s (l ++ [t]) ↔ Follows n s l ∧ t ∈ succS n (lastS s l) := by
  induction l generalizing s with
  | nil => simp [Follows, lastS]
  | cons a l ih => simp only [List.cons_append, Follows, ih a, lastS, and_assoc]
theorem follows_append {n : NetT} (s : StepT) (l m : List StepT) : Follows n s (l ++ m) ↔ Follows n s l ∧ Follows n (lastS s l) m := by
  induction l generalizing s with
  | nil => simp [Follows, lastS]
  | cons a l ih => simp only [List.cons_append, Follows, ih a, lastS, and_assoc]
theorem follows_ok {n : NetT} (hg : Good n) {s : StepT} (hs : stepB n s = true) {l : List StepT} (h : Follows n s l) : ∀ t ∈ l, stepB n t = true := by
  induction l generalizing s with
  | nil => simp
  | cons a l ih =>
    have ha := succ_ok hg hs h.1
    intro t ht
    rcases List.mem_cons.1 ht with rfl | ht
    · exact ha
    · exact ih ha h.2 t ht
def weighS (n : NetT) (l : List StepT) : Int := (l.map (lenS n)).sum
theorem weighS_append (n : NetT) (l m : List StepT) : weighS n (l ++ m) = weighS n l + weighS n m := by unfold weighS; rw [List.map_append, List.sum_append]
theorem weighS_cons (n : NetT) (s : StepT) (l : List StepT) : weighS n (s :: l) = lenS n s + weighS n l := by unfold weighS; rw [List.map_cons, List.sum_cons]
theorem weighS_one (n : NetT) (s : StepT) : weighS n [s] = lenS n s := by simp [weighS]
theorem weighS_nonneg {n : NetT} (hg : Good n) {l : List StepT} (h : ∀ t ∈ l, stepB n t = true) : (l.length : Int) ≤ weighS n l ∧ weighS n l ≤ 10000000 * (l.length : Int) := by
  induction l with
  | nil => simp [weighS]
  | cons a l ih =>
    have h1 := hg.lenS (h a (by simp))
    have h2 := ih (fun t ht => h t (by simp [ht]))
    rw [weighS_cons, List.length_cons]
    omega
def stepLt (a b : StepT) : Bool := decide (a.piece < b.piece ∨ a.piece = b.piece ∧ a.way < b.way)
theorem stepLt_iff {a b : StepT} : stepLt a b = true ↔ (a.piece < b.piece ∨ a.piece = b.piece ∧ a.way < b.way) := by unfold stepLt; simp
theorem stepLt_total {a b : StepT} (h : a ≠ b) : stepLt a b = true ∨ stepLt b a = true := by
  rw [stepLt_iff, stepLt_iff]
  by_cases h1 : a.piece = b.piece
  · have : a.way ≠ b.way := fun h2 => h (StepT.ext_iff.1 ⟨h1, h2⟩)
    omega
  · omega
theorem stepLt_irrefl (a : StepT) : stepLt a a = false := by unfold stepLt; simp
theorem stepLt_trans {a b c : StepT} (h : stepLt a b = true) (h2 : stepLt b c = true) : stepLt a c = true := by
  rw [stepLt_iff] at *; omega
def lexB : List StepT → List StepT → Bool
  | a :: l, b :: m => if a = b then lexB l m else stepLt a b
  | _, _ => false
theorem lexB_irrefl (l : List StepT) : lexB l l = false := by
  induction l with
  | nil => rfl
  | cons a l ih => simp only [lexB, if_pos, ih]
theorem lexB_total : ∀ {l m : List StepT}, l.length = m.length → l ≠ m → lexB l m = true ∨ lexB m l = true
  | [], [], _, h => absurd rfl h
  | a :: l, b :: m, h, hn => by
    by_cases e : a = b
    · subst e
      simp only [lexB, if_pos]
      exact lexB_total (by simpa using h) (fun h2 => hn (by rw [h2]))
    · simp only [lexB, if_neg e, if_neg (Ne.symm e)]
      exact stepLt_total e
theorem lexB_trans : ∀ {l m k : List StepT}, lexB l m = true → lexB m k = true → lexB l k = true
  | a :: l, b :: m, c :: k, h, h2 => by
    simp only [lexB] at h h2 ⊢
    by_cases e : a = b
    · subst e
      rw [if_pos rfl] at h
      by_cases e2 : a = c
      · subst e2
        rw [if_pos rfl] at h2 ⊢
        exact lexB_trans h h2
      · rw [if_neg e2] at h2 ⊢
        exact h2
    · rw [if_neg e] at h
      by_cases e2 : b = c
      · subst e2
        rw [if_neg e]
        exact h
      · rw [if_neg e2] at h2
        have := stepLt_trans h h2
        rw [if_neg]
        · exact this
        · rintro rfl
          rw [stepLt_irrefl] at this
          cases this
  | [], _, _, h, _ => by simp [lexB] at h
  | _ :: _, [], _, h, _ => by simp [lexB] at h
  | _ :: _, _ :: _, [], _, h => by simp [lexB] at h
theorem lexB_snoc : ∀ {l m : List StepT} (t : StepT), l.length = m.length → lexB (l ++ [t]) (m ++ [t]) = lexB l m
  | [], [], t, _ => by simp [lexB]
  | a :: l, b :: m, t, h => by
    simp only [List.cons_append, lexB]
    rw [lexB_snoc t (by simpa using h)]
def lessW (n : NetT) (l m : List StepT) : Bool :=
  decide (weighS n l < weighS n m) || (decide (weighS n l = weighS n m) && (decide (l.length < m.length) || (decide (l.length = m.length) && lexB l m)))
theorem lessW_iff {n : NetT} {l m : List StepT} : lessW n l m = true ↔ weighS n l < weighS n m ∨ weighS n l = weighS n m ∧ (l.length < m.length ∨ l.length = m.length ∧ lexB l m = true) := by
  unfold lessW
  simp only [Bool.or_eq_true, Bool.and_eq_true, decide_eq_true_eq]
theorem lessW_irrefl (n : NetT) (l : List StepT) : lessW n l l = false := by
  rw [Bool.eq_false_iff]
  intro h
  rcases lessW_iff.1 h with h | ⟨_, h | ⟨_, h⟩⟩
  · omega
  · omega
  · rw [lexB_irrefl] at h; cases h
theorem lessW_trans {n : NetT} {l m k : List StepT} (h : lessW n l m = true) (h2 : lessW n m k = true) : lessW n l k = true := by
  rw [lessW_iff] at *
  rcases h with h | ⟨h, h' | ⟨h', h''⟩⟩ <;> rcases h2 with g | ⟨g, g' | ⟨g', g''⟩⟩
  all_goals first
    | (left; omega)
    | (right; exact ⟨by omega, .inl (by omega)⟩)
    | (right; exact ⟨by omega, .inr ⟨by omega, lexB_trans h'' g''⟩⟩)
theorem lessW_total {n : NetT} {l m : List StepT} (h : l ≠ m) : lessW n l m = true ∨ lessW n m l = true := by
  rw [lessW_iff, lessW_iff]
  by_cases h1 : weighS n l = weighS n m
  · by_cases h2 : l.length = m.length
    · rcases lexB_total h2 h with h3 | h3
      · exact .inl (.inr ⟨h1, .inr ⟨h2, h3⟩⟩)
      · exact .inr (.inr ⟨h1.symm, .inr ⟨h2.symm, h3⟩⟩)
    · rcases Nat.lt_or_gt_of_ne h2 with h3 | h3
      · exact .inl (.inr ⟨h1, .inl h3⟩)
      · exact .inr (.inr ⟨h1.symm, .inl h3⟩)
  · rcases Int.lt_or_gt_of_ne h1 with h3 | h3
    · exact .inl (.inl h3)
    · exact .inr (.inl h3)
def leW (n : NetT) (l m : List StepT) : Prop := lessW n m l = false
theorem leW_refl (n : NetT) (l : List StepT) : leW n l l := lessW_irrefl n l
theorem leW_of_less {n : NetT} {l m : List StepT} (h : lessW n l m = true) : leW n l m := by
  unfold leW
  cases h2 : lessW n m l with
  | false => rfl
  | true => have := lessW_trans h h2; rw [lessW_irrefl] at this; cases this
theorem leW_trans {n : NetT} {l m k : List StepT} (h : leW n l m) (h2 : leW n m k) : leW n l k := by
  by_cases e : l = m
  · rw [e]; exact h2
  · by_cases e2 : m = k
    · rw [← e2]; exact h
    · have a : lessW n l m = true := (lessW_total e).resolve_right (by unfold leW at h; rw [h]; simp)
      have b : lessW n m k = true := (lessW_total e2).resolve_right (by unfold leW at h2; rw [h2]; simp)
      exact leW_of_less (lessW_trans a b)
theorem leW_antisymm {n : NetT} {l m : List StepT} (h : leW n l m) (h2 : leW n m l) : l = m := by
  by_cases e : l = m
  · exact e
  · rcases lessW_total (n := n) e with h3 | h3
    · unfold leW at h2; rw [h2] at h3; cases h3
    · unfold leW at h; rw [h] at h3; cases h3
theorem lessW_snoc (n : NetT) (l m : List StepT) (t : StepT) : lessW n (l ++ [t]) (m ++ [t]) = lessW n l m := by
  have h : ∀ l m : List StepT, lessW n (l ++ [t]) (m ++ [t]) = true ↔ lessW n l m = true := fun l m => by
    rw [lessW_iff, lessW_iff, weighS_append, weighS_append, List.length_append, List.length_append]
    constructor
    · rintro (h | ⟨h, h2 | ⟨h2, h3⟩⟩)
      · left; omega
      · right; exact ⟨by omega, .inl (by omega)⟩
      · right
        have : l.length = m.length := by simpa using h2
        rw [lexB_snoc t this] at h3
        exact ⟨by omega, .inr ⟨this, h3⟩⟩
    · rintro (h | ⟨h, h2 | ⟨h2, h3⟩⟩)
      · left; omega
      · right; exact ⟨by omega, .inl (by omega)⟩
      · right
        exact ⟨by omega, .inr ⟨by omega, by rw [lexB_snoc t h2]; exact h3⟩⟩
  cases h1 : lessW n l m with
  | true => exact (h l m).2 h1
  | false => rw [Bool.eq_false_iff]; intro h2; rw [(h l m).1 h2] at h1; cases h1
theorem leW_snoc {n : NetT} {l m : List StepT} (h : leW n l m) (t : StepT) : leW n (l ++ [t]) (m ++ [t]) := by
  unfold leW at *
  rw [lessW_snoc]; exact h
structure Least (n : NetT) (s t : StepT) (l : List StepT) : Prop where
  f : Follows n s l
  ne : l ≠ []
  last : lastS s l = t
  le : ∀ m, Follows n s m → m ≠ [] → lastS s m = t → leW n l m
theorem Least.unique {n : NetT} {s t : StepT} {l m : List StepT} (h : Least n s t l) (h2 : Least n s t m) : l = m :=
  leW_antisymm (h.le m h2.f h2.ne h2.last) (h2.le l h.f h.ne h.last)
def NoWalk (n : NetT) (s t : StepT) : Prop := ∀ m, Follows n s m → m ≠ [] → lastS s m ≠ t
abbrev BestT := StepT → Option (List StepT)
def relax (n : NetT) (st : BestT × List (List StepT)) (p : StepT) (x : List StepT) : BestT × List (List StepT) :=
  if (match st.1 p with | none => true | some l => lessW n x l) = true then (fun q => if q = p then some x else st.1 q, st.2 ++ [x]) else st
def relaxAll (n : NetT) (s : StepT) (c : List StepT) (st : BestT × List (List StepT)) : BestT × List (List StepT) :=
  (succS n (lastS s c)).foldl (fun st p => relax n st p (c ++ [p])) st
def roundS (n : NetT) (s : StepT) (best : BestT) (line : List (List StepT)) : BestT × List (List StepT) :=
  line.foldl (fun st c => relaxAll n s c st) (best, [])
structure InvR (n : NetT) (s : StepT) (r : Nat) (best : BestT) (line : List (List StepT)) : Prop where
  walk : ∀ p l, best p = some l → Follows n s l ∧ l ≠ [] ∧ lastS s l = p ∧ l.length ≤ r
  least : ∀ m, Follows n s m → m ≠ [] → m.length ≤ r → ∃ l, best (lastS s m) = some l ∧ leW n l m
  line_ : ∀ c, c ∈ line → Follows n s c ∧ c.length = r ∧ c.Nodup
  cur : ∀ p l, best p = some l → l.length = r → l ∈ line
  zero : r = 0 → [] ∈ line
structure MidR (n : NetT) (s : StepT) (r : Nat) (best : BestT) (best' : BestT) (next : List (List StepT)) : Prop where
  walk : ∀ p l, best' p = some l → Follows n s l ∧ l ≠ [] ∧ lastS s l = p ∧ l.length ≤ r + 1
  mono : ∀ p l, best p = some l → ∃ l', best' p = some l' ∧ leW n l' l
  line_ : ∀ c, c ∈ next → Follows n s c ∧ c.length = r + 1 ∧ c.Nodup
  cur : ∀ p l, best' p = some l → l.length = r + 1 → l ∈ next
theorem MidR.start {n : NetT} {s : StepT} {r : Nat} {best : BestT} {line : List (List StepT)} (h : InvR n s r best line) : MidR n s r best best [] :=
  ⟨fun p l hl => by have := h.walk p l hl; exact ⟨this.1, this.2.1, this.2.2.1, by omega⟩, fun p l hl => ⟨l, hl, leW_refl n l⟩, by simp, fun p l hl h2 => by have := h.walk p l hl; omega⟩
theorem MidR.relax {n : NetT} (hg : Good n) {s : StepT} (hs : stepB n s = true) {r : Nat} {best : BestT} {line : List (List StepT)} (h : InvR n s r best line) {st : BestT × List (List StepT)} (hm : MidR n s r best st.1 st.2)
    {c : List StepT} (hc : c ∈ line) {p : StepT} (hp : p ∈ succS n (lastS s c)) :
    MidR n s r best (relax n st p (c ++ [p])).1 (relax n st p (c ++ [p])).2 ∧ (∃ l, (relax n st p (c ++ [p])).1 p = some l ∧ leW n l (c ++ [p])) ∧ ∀ q l, st.1 q = some l → ∃ l', (relax n st p (c ++ [p])).1 q = some l' ∧ leW n l' l := by
  obtain ⟨c1, c2, c3⟩ := h.line_ c hc
  have hf : Follows n s (c ++ [p]) := (follows_snoc s c p).2 ⟨c1, hp⟩
  by_cases ha : (match st.1 p with | none => true | some l => lessW n (c ++ [p]) l) = true
  · have e : Go.Proofs.Ytckcffjnffcjcaa.relax n st p (c ++ [p]) = (fun q => if q = p then some (c ++ [p]) else st.1 q, st.2 ++ [c ++ [p]]) := if_pos ha
    rw [e]
    have hnew : ∀ l, st.1 p = some l → leW n (c ++ [p]) l := fun l hl => by
      rw [hl] at ha
      exact leW_of_less ha
    refine ⟨⟨fun q l hl => ?_, fun q l hl => ?_, fun x hx => ?_, fun q l hl h2 => ?_⟩, ⟨c ++ [p], by simp, leW_refl n _⟩, fun q l hl => ?_⟩
    · simp only at hl
      split at hl
      · rename_i hq
        injection hl with hl
        subst hl hq
        exact ⟨hf, by simp, lastS_snoc s c q, by simp [c2]⟩
      · exact hm.walk q l hl
    · obtain ⟨l', h1, h2⟩ := hm.mono q l hl
      simp only
      by_cases hq : q = p
      · subst hq
        rw [if_pos rfl]
        exact ⟨_, rfl, leW_trans (hnew l' h1) h2⟩
      · rw [if_neg hq]
        exact ⟨l', h1, h2⟩
    · rcases List.mem_append.1 hx with hx | hx
      · exact hm.line_ x hx
      · have : x = c ++ [p] := by simpa using hx
        subst this
        refine ⟨hf, by simp [c2], ?_⟩
        rw [List.nodup_append]
        refine ⟨c3, by simp, fun a ha2 b hb => ?_⟩
        have hb' : b = p := by simpa using hb
        subst hb'
        rintro rfl
        obtain ⟨d1, d2, hd⟩ := List.append_of_mem ha2
        have hpre : Follows n s (d1 ++ [a]) := by
          rw [hd] at c1
          have : d1 ++ a :: d2 = (d1 ++ [a]) ++ d2 := by simp
          rw [this] at c1
          exact ((follows_append s _ _).1 c1).1
        obtain ⟨l, hl, hle⟩ := h.least (d1 ++ [a]) hpre (by simp) (by rw [← c2, hd]; simp)
        rw [lastS_snoc] at hl
        obtain ⟨l', hl', hle'⟩ := hm.mono a l hl
        have h5 := leW_trans hle' hle
        have h6 := leW_trans (hnew l' hl') h5
        unfold leW at h6
        have h7 : lessW n (d1 ++ [a]) (c ++ [a]) = true := by
          rw [lessW_iff]
          left
          have hall := follows_ok hg hs hf
          have h8 : weighS n (c ++ [a]) = weighS n (d1 ++ [a]) + weighS n d2 + lenS n a := by
            rw [hd]
            have : d1 ++ a :: d2 ++ [a] = (d1 ++ [a]) ++ d2 ++ [a] := by simp
            rw [this, weighS_append, weighS_append, weighS_one]
          have h9 := hg.lenS (hall a (by simp))
          have h10 := weighS_nonneg hg (l := d2) (fun t ht => hall t (by rw [hd]; simp [ht]))
          omega
        rw [h6] at h7
        cases h7
    · simp only at hl
      split at hl
      · rename_i hq
        injection hl with hl
        subst hl
        simp
      · exact List.mem_append_left _ (hm.cur q l hl h2)
    · simp only
      by_cases hq : q = p
      · subst hq
        rw [if_pos rfl]
        exact ⟨_, rfl, hnew l hl⟩
      · rw [if_neg hq]
        exact ⟨l, hl, leW_refl n l⟩
  · have e : Go.Proofs.Ytckcffjnffcjcaa.relax n st p (c ++ [p]) = st := if_neg ha
    rw [e]
    refine ⟨hm, ?_, fun q l hl => ⟨l, hl, leW_refl n l⟩⟩
    cases hq : st.1 p with
    | none => rw [hq] at ha; exact absurd rfl ha
    | some l =>
      rw [hq] at ha
      refine ⟨l, rfl, ?_⟩
      unfold leW
      simpa using ha
theorem MidR.relaxAll {n : NetT} (hg : Good n) {s : StepT} (hs : stepB n s = true) {r : Nat} {best : BestT} {line : List (List StepT)} (h : InvR n s r best line) {c : List StepT} (hc : c ∈ line) :
    ∀ (ps : List StepT), (∀ p ∈ ps, p ∈ succS n (lastS s c)) → ∀ {st : BestT × List (List StepT)}, MidR n s r best st.1 st.2 →
    MidR n s r best (ps.foldl (fun st p => Go.Proofs.Ytckcffjnffcjcaa.relax n st p (c ++ [p])) st).1 (ps.foldl (fun st p => Go.Proofs.Ytckcffjnffcjcaa.relax n st p (c ++ [p])) st).2 ∧
      (∀ p ∈ ps, ∃ l, (ps.foldl (fun st p => Go.Proofs.Ytckcffjnffcjcaa.relax n st p (c ++ [p])) st).1 p = some l ∧ leW n l (c ++ [p])) ∧
      ∀ q l, st.1 q = some l → ∃ l', (ps.foldl (fun st p => Go.Proofs.Ytckcffjnffcjcaa.relax n st p (c ++ [p])) st).1 q = some l' ∧ leW n l' l
  | [], _, st, hm => ⟨hm, by simp, fun q l hl => ⟨l, hl, leW_refl n l⟩⟩
  | p :: ps, hp, st, hm => by
    obtain ⟨h1, ⟨l1, h2, h2'⟩, h3⟩ := hm.relax hg hs h hc (hp p (by simp))
    obtain ⟨g1, g2, g3⟩ := MidR.relaxAll hg hs h hc ps (fun q hq => hp q (by simp [hq])) h1
    rw [List.foldl_cons]
    refine ⟨g1, fun q hq => ?_, fun q l hl => ?_⟩
    · rcases List.mem_cons.1 hq with rfl | hq
      · obtain ⟨l', k1, k2⟩ := g3 q l1 h2
        exact ⟨l', k1, leW_trans k2 h2'⟩
      · exact g2 q hq
    · obtain ⟨l', k1, k2⟩ := h3 q l hl
      obtain ⟨l'', k3, k4⟩ := g3 q l' k1
      exact ⟨l'', k3, leW_trans k4 k2⟩
theorem MidR.line {n : NetT} (hg : Good n) {s : StepT} (hs : stepB n s = true) {r : Nat} {best : BestT} {line : List (List StepT)} (h : InvR n s r best line) :
    ∀ (cs : List (List StepT)), (∀ c ∈ cs, c ∈ line) → ∀ {st : BestT × List (List StepT)}, MidR n s r best st.1 st.2 →
    MidR n s r best (cs.foldl (fun st c => Go.Proofs.Ytckcffjnffcjcaa.relaxAll n s c st) st).1 (cs.foldl (fun st c => Go.Proofs.Ytckcffjnffcjcaa.relaxAll n s c st) st).2 ∧
      (∀ c ∈ cs, ∀ p ∈ succS n (lastS s c), ∃ l, (cs.foldl (fun st c => Go.Proofs.Ytckcffjnffcjcaa.relaxAll n s c st) st).1 p = some l ∧ leW n l (c ++ [p])) ∧
      ∀ q l, st.1 q = some l → ∃ l', (cs.foldl (fun st c => Go.Proofs.Ytckcffjnffcjcaa.relaxAll n s c st) st).1 q = some l' ∧ leW n l' l
  | [], _, st, hm => ⟨hm, by simp, fun q l hl => ⟨l, hl, leW_refl n l⟩⟩
  | c :: cs, hc, st, hm => by
    obtain ⟨h1, h2, h3⟩ := MidR.relaxAll hg hs h (hc c (by simp)) (succS n (lastS s c)) (fun p hp => hp) hm
    obtain ⟨g1, g2, g3⟩ := MidR.line hg hs h cs (fun d hd => hc d (by simp [hd])) (st := Go.Proofs.Ytckcffjnffcjcaa.relaxAll n s c st) h1
    rw [List.foldl_cons]
    refine ⟨g1, fun d hd p hp => ?_, fun q l hl => ?_⟩
    · rcases List.mem_cons.1 hd with rfl | hd
      · obtain ⟨l1, k0, k0'⟩ := h2 p hp
        obtain ⟨l', k1, k2⟩ := g3 p l1 k0
        exact ⟨l', k1, leW_trans k2 k0'⟩
      · exact g2 d hd p hp
    · obtain ⟨l', k1, k2⟩ := h3 q l hl
      obtain ⟨l'', k3, k4⟩ := g3 q l' k1
      exact ⟨l'', k3, leW_trans k4 k2⟩
theorem InvR.step {n : NetT} (hg : Good n) {s : StepT} (hs : stepB n s = true) {r : Nat} {best : BestT} {line : List (List StepT)} (h : InvR n s r best line) : InvR n s (r + 1) (roundS n s best line).1 (roundS n s best line).2 := by
  obtain ⟨h1, h2, h3⟩ := MidR.line hg hs h line (fun c hc => hc) (st := (best, [])) (MidR.start h)
  refine ⟨h1.walk, fun m hf hne hlen => ?_, h1.line_, h1.cur, fun hz => by omega⟩
  by_cases hl : m.length ≤ r
  · obtain ⟨l, k1, k2⟩ := h.least m hf hne hl
    obtain ⟨l', k3, k4⟩ := h3 _ l k1
    exact ⟨l', k3, leW_trans k4 k2⟩
  · have hsplit := List.dropLast_concat_getLast hne
    obtain ⟨m', p, hmp⟩ : ∃ m' p, m = m' ++ [p] := ⟨_, _, hsplit.symm⟩
    subst hmp
    rw [lastS_snoc]
    obtain ⟨f1, f2⟩ := (follows_snoc s m' p).1 hf
    have hm' : m'.length = r := by simp at hlen hl; omega
    by_cases hr : r = 0
    · have : m' = [] := List.eq_nil_of_length_eq_zero (by omega)
      subst this
      exact h2 [] (h.zero hr) p f2
    · have hne' : m' ≠ [] := fun h0 => by rw [h0] at hm'; simp at hm'; omega
      obtain ⟨l, k1, k2⟩ := h.least m' f1 hne' (by omega)
      have hw := h.walk _ l k1
      by_cases hlr : l.length = r
      · obtain ⟨l', k3, k4⟩ := h2 l (h.cur _ l k1 hlr) p (by rw [hw.2.2.1]; exact f2)
        exact ⟨l', k3, leW_trans k4 (leW_snoc k2 p)⟩
      · obtain ⟨l', k3, k4⟩ := h.least (l ++ [p]) ((follows_snoc s l p).2 ⟨hw.1, by rw [hw.2.2.1]; exact f2⟩) (by simp) (by simp; omega)
        rw [lastS_snoc] at k3
        obtain ⟨l'', k5, k6⟩ := h3 p l' k3
        exact ⟨l'', k5, leW_trans k6 (leW_trans k4 (leW_snoc k2 p))⟩
theorem InvR.start (n : NetT) (s : StepT) : InvR n s 0 (fun _ => none) [[]] :=
  ⟨fun p l h => by simp at h, fun m _ h1 h2 => absurd (List.eq_nil_of_length_eq_zero (by omega)) h1, fun c hc => by
    have : c = [] := by simpa using hc
    subst this
    exact ⟨trivial, rfl, List.nodup_nil⟩, fun p l h => by simp at h, fun _ => by simp⟩
theorem InvR.stop {n : NetT} (hg : Good n) {s : StepT} (hs : stepB n s = true) {r : Nat} {best : BestT} (h : InvR n s r best []) : (∀ p l, best p = some l → Least n s p l) ∧ ∀ p, best p = none → NoWalk n s p := by
  have hk : ∀ k, InvR n s (r + k) best [] := by
    intro k
    induction k with
    | zero => exact h
    | succ k ih => have := ih.step hg hs; exact this
  constructor
  · intro p l hl
    have := h.walk p l hl
    refine ⟨this.1, this.2.1, this.2.2.1, fun m f1 f2 f3 => ?_⟩
    obtain ⟨l', k1, k2⟩ := (hk m.length).least m f1 f2 (by omega)
    rw [f3, hl] at k1
    injection k1 with k1
    subst k1
    exact k2
  · intro p hp m f1 f2 f3
    obtain ⟨l', k1, k2⟩ := (hk m.length).least m f1 f2 (by omega)
    rw [f3, hp] at k1
    cases k1
theorem nodup_le : ∀ (N : Nat) (l : List Nat), l.Nodup → (∀ x ∈ l, x < N) → l.length ≤ N
  | 0, l, _, h => by
    cases l with
    | nil => simp
    | cons a l => exact absurd (h a (by simp)) (by omega)
  | N + 1, l, hn, h => by
    have h1 := nodup_le N (l.filter (fun x => decide (x ≠ N))) (hn.filter _) (fun x hx => by
      have := List.mem_filter.1 hx
      have h2 := h x this.1
      have h3 : x ≠ N := by simpa using this.2
      omega)
    have h2 : l.length ≤ (l.filter (fun x => decide (x ≠ N))).length + 1 := by
      have h3 := List.length_eq_countP_add_countP (fun x => decide (x ≠ N)) (l := l)
      rw [List.countP_eq_length_filter] at h3
      have h4 : l.countP (fun x => decide ¬(decide (x ≠ N)) = true) = l.count N := by
        unfold List.count
        refine List.countP_congr fun x _ => ?_
        simp
      have h5 := List.nodup_iff_count.1 hn N
      omega
    omega
def numS (s : StepT) : Nat := 2 * s.piece.toNat + (if s.way = 1 then 0 else 1)
theorem numS_inj {n : NetT} {a b : StepT} (ha : stepB n a = true) (hb : stepB n b = true) (h : numS a = numS b) : a = b := by
  have h1 := stepB_iff.1 ha
  have h2 := stepB_iff.1 hb
  unfold numS at h
  refine StepT.ext_iff.1 ?_
  rcases h1.2.2 with e1 | e1 <;> rcases h2.2.2 with e2 | e2 <;> rw [e1, e2] at h ⊢ <;> simp at h ⊢ <;> omega
theorem numS_lt {n : NetT} {a : StepT} (ha : stepB n a = true) : numS a < 2 * n.pieces.length := by
  have h1 := stepB_iff.1 ha
  unfold numS
  split <;> omega
theorem nodup_steps {n : NetT} {l : List StepT} (h : l.Nodup) (hs : ∀ t ∈ l, stepB n t = true) : l.length ≤ 2 * n.pieces.length := by
  have h1 : (l.map numS).Nodup := by
    rw [List.nodup_iff_pairwise_ne, List.pairwise_map]
    refine List.Pairwise.imp_of_mem ?_ (List.nodup_iff_pairwise_ne.1 h)
    intro a b ha hb hab he
    exact hab (numS_inj (hs a ha) (hs b hb) he)
  have := nodup_le (2 * n.pieces.length) (l.map numS) h1 (fun x hx => by
    obtain ⟨a, ha, rfl⟩ := List.mem_map.1 hx
    exact numS_lt (hs a ha))
  simpa using this
theorem InvR.bound {n : NetT} (hg : Good n) {s : StepT} (hs : stepB n s = true) {r : Nat} {best : BestT} {line : List (List StepT)} (h : InvR n s r best line) (hne : line ≠ []) : r ≤ 2 * n.pieces.length := by
  cases line with
  | nil => exact absurd rfl hne
  | cons c line =>
    obtain ⟨c1, c2, c3⟩ := h.line_ c (by simp)
    rw [← c2]
    exact nodup_steps c3 (follows_ok hg hs c1)
end Go.Proofs.Ytckcffjnffcjcaa
namespace Go.Proofs.Ytckcffjnffcjcaa
open Go.RowKit Go.Proofs.YtckcffjnffcjcaaW.PrintWords
set_option maxRecDepth 100000 in
theorem l3head_any (s : SpotT) (w : World) :
    Calls Try.prog 157 #[.agg #[.int .i64 s.piece, .int .i64 s.at_, .int .i64 s.way]] w fun e w' => e = .returned (Value.agg #[.int .i64 (headE s).piece, .int .i64 (headE s).side]) ∧ Below w.heap.size w w' := by
  by_cases h : s.way = 1
  · have h1 : (s.way == 1) = true := by simpa using h
    have HV : Aside0 ((Value.agg #[.int .i64 (headE s).piece, .int .i64 (headE s).side]) = (Value.agg #[.int .i64 s.piece, .int .i64 1])) := ⟨by simp [headE, lookS, comesS, h]⟩
    clear h
    go_enter Try.func157, Try.ntmps157
    go_wp2
    exact bodyPost_ret (v := Value.agg #[.int .i64 s.piece, .int .i64 1]) (by simp [results, Try.results157, go_sem]) rfl ⟨by rw [HV.out], by
      repeat (first | (with_reducible exact Below.refl _ _) | (with_reducible exact fb.out) | (with_reducible refine below_drewN' ?_ _) | (with_reducible refine below_drew ?_) | (with_reducible refine below_set ?_ (by simp; done)) | (with_reducible refine below_set ?_ (by omega)) | (with_reducible refine below_alloc ?_ _))⟩
  · have h1 : (s.way == 1) = false := by simpa using h
    have HV : Aside0 ((Value.agg #[.int .i64 (headE s).piece, .int .i64 (headE s).side]) = (Value.agg #[.int .i64 s.piece, .int .i64 0])) := ⟨by simp [headE, lookS, comesS, h]⟩
    clear h
    go_enter Try.func157, Try.ntmps157
    go_wp2
    exact bodyPost_ret (v := Value.agg #[.int .i64 s.piece, .int .i64 0]) (by simp [results, Try.results157, go_sem]) rfl ⟨by rw [HV.out], by
      repeat (first | (with_reducible exact Below.refl _ _) | (with_reducible exact fb.out) | (with_reducible refine below_drewN' ?_ _) | (with_reducible refine below_drew ?_) | (with_reducible refine below_set ?_ (by simp; done)) | (with_reducible refine below_set ?_ (by omega)) | (with_reducible refine below_alloc ?_ _))⟩
set_option maxRecDepth 100000 in
theorem looked_any (s : StepT) (w : World) :
    Calls Try.prog 155 #[.agg #[.int .i64 s.piece, .int .i64 s.way]] w fun e w' => e = .returned (Value.agg #[.int .i64 (lookS s).piece, .int .i64 (lookS s).side]) ∧ Below w.heap.size w w' := by
  by_cases h : s.way = 1
  · have h1 : (s.way == 1) = true := by simpa using h
    have HV : Aside0 ((Value.agg #[.int .i64 (lookS s).piece, .int .i64 (lookS s).side]) = (Value.agg #[.int .i64 s.piece, .int .i64 1])) := ⟨by simp [headE, lookS, comesS, h]⟩
    clear h
    go_enter Try.func155, Try.ntmps155
    go_wp2
    exact bodyPost_ret (v := Value.agg #[.int .i64 s.piece, .int .i64 1]) (by simp [results, Try.results155, go_sem]) rfl ⟨by rw [HV.out], by
      repeat (first | (with_reducible exact Below.refl _ _) | (with_reducible exact fb.out) | (with_reducible refine below_drewN' ?_ _) | (with_reducible refine below_drew ?_) | (with_reducible refine below_set ?_ (by simp; done)) | (with_reducible refine below_set ?_ (by omega)) | (with_reducible refine below_alloc ?_ _))⟩
  · have h1 : (s.way == 1) = false := by simpa using h
    have HV : Aside0 ((Value.agg #[.int .i64 (lookS s).piece, .int .i64 (lookS s).side]) = (Value.agg #[.int .i64 s.piece, .int .i64 0])) := ⟨by simp [headE, lookS, comesS, h]⟩
    clear h
    go_enter Try.func155, Try.ntmps155
    go_wp2
    exact bodyPost_ret (v := Value.agg #[.int .i64 s.piece, .int .i64 0]) (by simp [results, Try.results155, go_sem]) rfl ⟨by rw [HV.out], by
      repeat (first | (with_reducible exact Below.refl _ _) | (with_reducible exact fb.out) | (with_reducible refine below_drewN' ?_ _) | (with_reducible refine below_drew ?_) | (with_reducible refine below_set ?_ (by simp; done)) | (with_reducible refine below_set ?_ (by omega)) | (with_reducible refine below_alloc ?_ _))⟩
set_option maxRecDepth 100000 in
theorem comes_any (x : EndT) (w : World) :
    Calls Try.prog 181 #[.agg #[.int .i64 x.piece, .int .i64 x.side]] w fun e w' => e = .returned (Value.agg #[.int .i64 (comesS x).piece, .int .i64 (comesS x).way]) ∧ Below w.heap.size w w' := by
  by_cases h : x.side = 0
  · have h1 : (x.side == 0) = true := by simpa using h
    have HV : Aside0 ((Value.agg #[.int .i64 (comesS x).piece, .int .i64 (comesS x).way]) = (Value.agg #[.int .i64 x.piece, .int .i64 1])) := ⟨by simp [headE, lookS, comesS, h]⟩
    clear h
    go_enter Try.func181, Try.ntmps181
    go_wp2
    exact bodyPost_ret (v := Value.agg #[.int .i64 x.piece, .int .i64 1]) (by simp [results, Try.results181, go_sem]) rfl ⟨by rw [HV.out], by
      repeat (first | (with_reducible exact Below.refl _ _) | (with_reducible exact fb.out) | (with_reducible refine below_drewN' ?_ _) | (with_reducible refine below_drew ?_) | (with_reducible refine below_set ?_ (by simp; done)) | (with_reducible refine below_set ?_ (by omega)) | (with_reducible refine below_alloc ?_ _))⟩
  · have h1 : (x.side == 0) = false := by simpa using h
    have HV : Aside0 ((Value.agg #[.int .i64 (comesS x).piece, .int .i64 (comesS x).way]) = (Value.agg #[.int .i64 x.piece, .int .i64 (-1)])) := ⟨by simp [headE, lookS, comesS, h]⟩
    clear h
    go_enter Try.func181, Try.ntmps181
    go_wp2
    exact bodyPost_ret (v := Value.agg #[.int .i64 x.piece, .int .i64 (-1)]) (by simp [results, Try.results181, go_sem]) rfl ⟨by rw [HV.out], by
      repeat (first | (with_reducible exact Below.refl _ _) | (with_reducible exact fb.out) | (with_reducible refine below_drewN' ?_ _) | (with_reducible refine below_drew ?_) | (with_reducible refine below_set ?_ (by simp; done)) | (with_reducible refine below_set ?_ (by omega)) | (with_reducible refine below_alloc ?_ _))⟩
set_option maxRecDepth 100000 in
theorem l4step_any (s : SpotT) (w : World) :
    Calls Try.prog 152 #[.agg #[.int .i64 s.piece, .int .i64 s.at_, .int .i64 s.way]] w fun e w' => e = .returned (.agg #[.int .i64 s.piece, .int .i64 s.way]) ∧ Below w.heap.size w w' := by
  go_enter Try.func152, Try.ntmps152
  go_wp2
  try go_region
  all_goals
    try go_wp2
    exact bodyPost_ret (v := .agg #[.int .i64 s.piece, .int .i64 s.way]) (by simp [results, Try.results152, go_sem]) rfl ⟨rfl, by
      repeat (first | (with_reducible exact Below.refl _ _) | (with_reducible exact fb.out) | (with_reducible refine below_drewN' ?_ _) | (with_reducible refine below_drew ?_) | (with_reducible refine below_set ?_ (by simp; done)) | (with_reducible refine below_set ?_ (by omega)) | (with_reducible refine below_alloc ?_ _))⟩
set_option maxRecDepth 100000 in
set_option maxHeartbeats 1000000 in
theorem l3room_any (n : NetT) (u : (Option Addr × Nat) × (Option Addr × Nat)) (s : SpotT) (w : World) (hr : RdNet 67 w u n) (hp : 0 ≤ s.piece) (hl : s.piece < (n.pieces.length : Int)) (ha0 : 0 ≤ s.at_) (ha1 : s.at_ ≤ lenP n s.piece) (hlen : lenP n s.piece ≤ 10000000) :
    Calls Try.prog 158 #[.agg #[.slice u.1.1 n.pieces.length u.1.2, .slice u.2.1 n.joints.length u.2.2], .agg #[.int .i64 s.piece, .int .i64 s.at_, .int .i64 s.way]] w fun e w' => e = .returned (.int .i64 (roomS n s)) ∧ Below w.heap.size w w' := by
  have hm := hr.1.1.2.1
  obtain ⟨⟨A0, c0⟩, ⟨A1, c1⟩⟩ := u
  obtain ⟨sp, sa, sw⟩ := s
  simp only at hp hl ha0 ha1 hlen ⊢
  obtain ⟨i, hi⟩ := Int.eq_ofNat_of_zero_le hp
  subst hi
  have hlt : i < n.pieces.length := by omega
  obtain ⟨ad0, e0, y0, y1, y2, y3⟩ := at_Piece hr.1.1 i hlt
  simp only at e0
  subst e0
  clear hr hp y0 y2 y3
  unfold lenP at ha1 hlen
  rw [Int.toNat_natCast] at ha1 hlen
  obtain ⟨L, hL⟩ : ∃ L, L = (n.pieces.getD i default).len := ⟨_, rfl⟩
  rw [← hL] at y1 ha1 hlen
  have HL := Aside0.mk (show lenP n (i : Int) = L by unfold lenP; rw [Int.toNat_natCast, hL])
  clear hL
  obtain ⟨W0, hW0, hN, hS, fb0, hsz⟩ := box2 w [.slice (some ad0) n.pieces.length c0, .slice A1 n.joints.length c1] [.int .i64 i, .int .i64 sa, .int .i64 sw] 35 38
  have fb := Aside0.mk fb0
  clear hsz
  have n0 := hN.c 0 _ rfl
  have m0 := hS.c 0 _ rfl
  have m1 := hS.c 1 _ rfl
  have m2 := hS.c 2 _ rfl
  have hsz0 := hS.lt
  replace y1 := pw_cell_below fb0 y1
  have HW := Aside0.mk hW0
  clear hW0 fb0 hN hS
  have hsub : IntKind.i64.wrap (L - sa) = L - sa := wrap64 (by omega) (by omega)
  by_cases h : sw = 1
  · subst h
    have HV : Aside0 ((.int .i64 (roomS n ⟨i, sa, 1⟩) : Value) = (.int .i64 (L - sa))) := ⟨by simp [roomS, headE, HL.out]⟩
    go_enter Try.func158, Try.ntmps158
    go_wp2
    try rw [← HW.out]
    go_quiet (fail)
    all_goals
      try go_wp2
      refine bodyPost_ret (v := .int .i64 (L - sa)) (by simp [results, Try.results158, go_sem]) rfl ⟨by rw [HV.out], ?_⟩
      repeat (first | (with_reducible exact Below.refl _ _) | (with_reducible exact fb.out) | (with_reducible refine below_drewN' ?_ _) | (with_reducible refine below_drew ?_) | (with_reducible refine below_set ?_ (by simp; done)) | (with_reducible refine below_set ?_ (by omega)) | (with_reducible refine below_alloc ?_ _))
  · have h1 : (sw == 1) = false := by simpa using h
    have HV : Aside0 ((.int .i64 (roomS n ⟨i, sa, sw⟩) : Value) = (.int .i64 (sa))) := ⟨by simp [roomS, headE, h]⟩
    clear h
    go_enter Try.func158, Try.ntmps158
    go_wp2
    try rw [← HW.out]
    skip
    all_goals
      try go_wp2
      refine bodyPost_ret (v := .int .i64 (sa)) (by simp [results, Try.results158, go_sem]) rfl ⟨by rw [HV.out], ?_⟩
      repeat (first | (with_reducible exact Below.refl _ _) | (with_reducible exact fb.out) | (with_reducible refine below_drewN' ?_ _) | (with_reducible refine below_drew ?_) | (with_reducible refine below_set ?_ (by simp; done)) | (with_reducible refine below_set ?_ (by omega)) | (with_reducible refine below_alloc ?_ _))
set_option maxRecDepth 100000 in
set_option maxHeartbeats 1000000 in
theorem room_any (n : NetT) (u : (Option Addr × Nat) × (Option Addr × Nat)) (s : SpotT) (w : World) (hr : RdNet 67 w u n) (hp : 0 ≤ s.piece) (hl : s.piece < (n.pieces.length : Int)) (ha0 : 0 ≤ s.at_) (ha1 : s.at_ ≤ lenP n s.piece) (hlen : lenP n s.piece ≤ 10000000) :
    Calls Try.prog 156 #[.agg #[.slice u.1.1 n.pieces.length u.1.2, .slice u.2.1 n.joints.length u.2.2], .agg #[.int .i64 s.piece, .int .i64 s.at_, .int .i64 s.way]] w fun e w' => e = .returned (.tuple #[.int .i64 (roomS n s), .agg #[.int .i64 (headE s).piece, .int .i64 (headE s).side]]) ∧ Below w.heap.size w w' := by
  have hm := hr.1.1.2.1
  obtain ⟨⟨A0, c0⟩, ⟨A1, c1⟩⟩ := u
  obtain ⟨sp, sa, sw⟩ := s
  simp only at hp hl ha0 ha1 hlen ⊢
  obtain ⟨i, hi⟩ := Int.eq_ofNat_of_zero_le hp
  subst hi
  have hlt : i < n.pieces.length := by omega
  obtain ⟨ad0, e0, y0, y1, y2, y3⟩ := at_Piece hr.1.1 i hlt
  simp only at e0
  subst e0
  clear hr hp y0 y2 y3
  unfold lenP at ha1 hlen
  rw [Int.toNat_natCast] at ha1 hlen
  obtain ⟨L, hL⟩ : ∃ L, L = (n.pieces.getD i default).len := ⟨_, rfl⟩
  rw [← hL] at y1 ha1 hlen
  have HL := Aside0.mk (show lenP n (i : Int) = L by unfold lenP; rw [Int.toNat_natCast, hL])
  clear hL
  obtain ⟨W0, hW0, hN, hS, fb0, hsz⟩ := box2 w [.slice (some ad0) n.pieces.length c0, .slice A1 n.joints.length c1] [.int .i64 i, .int .i64 sa, .int .i64 sw] 35 38
  have fb := Aside0.mk fb0
  obtain ⟨W1, hW1⟩ : ∃ W1, W1 = W0.alloc (.cells #[.int .i64 0, .int .i64 0] 67) := ⟨_, rfl⟩
  replace fb := Aside0.mk (show Below w.heap.size w W1 by rw [hW1]; exact below_alloc fb0 _)
  have hX : Bx W1 (w.heap.size + 2) [.int .i64 0, .int .i64 0] := by rw [hW1, ← hsz]; exact Bx.new W0 _ 67
  replace hN := hN.alloc (.cells #[.int .i64 0, .int .i64 0] 67)
  replace hS := hS.alloc (.cells #[.int .i64 0, .int .i64 0] 67)
  rw [← hW1] at hN hS
  have x0 := hX.c 0 _ rfl
  have x1 := hX.c 1 _ rfl
  have xf0 := hX.f 0
  have xf1 := hX.f 1
  have hsz2 := hX.lt
  replace fb0 := fb.out
  replace hW0 := show W1 = ((w.alloc (.cells #[.slice (some ad0) n.pieces.length c0, .slice A1 n.joints.length c1] 35)).alloc (.cells #[.int .i64 i, .int .i64 sa, .int .i64 sw] 38)).alloc (.cells #[.int .i64 0, .int .i64 0] 67) by rw [hW1, hW0]
  clear hW1 hX hsz
  have n0 := hN.c 0 _ rfl
  have m0 := hS.c 0 _ rfl
  have m1 := hS.c 1 _ rfl
  have m2 := hS.c 2 _ rfl
  have hsz0 := hS.lt
  replace y1 := pw_cell_below fb0 y1
  have HW := Aside0.mk hW0
  clear hW0 fb0 hN hS
  have hsub : IntKind.i64.wrap (L - sa) = L - sa := wrap64 (by omega) (by omega)
  by_cases h : sw = 1
  · subst h
    have HV : Aside0 ((.tuple #[.int .i64 (roomS n ⟨i, sa, 1⟩), .agg #[.int .i64 (headE ⟨i, sa, 1⟩).piece, .int .i64 (headE ⟨i, sa, 1⟩).side]] : Value) = (.tuple #[.int .i64 (L - sa), .agg #[.int .i64 i, .int .i64 1]])) := ⟨by simp [roomS, headE, HL.out]⟩
    go_enter Try.func156, Try.ntmps156
    go_wp2
    try rw [← HW.out]
    go_region
    all_goals
      try go_wp2
      refine bodyPost_ret (v := .tuple #[.int .i64 (L - sa), .agg #[.int .i64 i, .int .i64 1]]) (by simp [results, Try.results156, go_sem, x0, x1, xf0, xf1, hsz2]) rfl ⟨by rw [HV.out], ?_⟩
      repeat (first | (with_reducible exact Below.refl _ _) | (with_reducible exact fb.out) | (with_reducible refine below_drewN' ?_ _) | (with_reducible refine below_drew ?_) | (with_reducible refine below_set ?_ (by simp; done)) | (with_reducible refine below_set ?_ (by omega)) | (with_reducible refine below_alloc ?_ _))
  · have h1 : (sw == 1) = false := by simpa using h
    have HV : Aside0 ((.tuple #[.int .i64 (roomS n ⟨i, sa, sw⟩), .agg #[.int .i64 (headE ⟨i, sa, sw⟩).piece, .int .i64 (headE ⟨i, sa, sw⟩).side]] : Value) = (.tuple #[.int .i64 (sa), .agg #[.int .i64 i, .int .i64 0]])) := ⟨by simp [roomS, headE, h]⟩
    clear h
    go_enter Try.func156, Try.ntmps156
    go_wp2
    try rw [← HW.out]
    go_region
    all_goals
      try go_wp2
      refine bodyPost_ret (v := .tuple #[.int .i64 (sa), .agg #[.int .i64 i, .int .i64 0]]) (by simp [results, Try.results156, go_sem, x0, x1, xf0, xf1, hsz2]) rfl ⟨by rw [HV.out], ?_⟩
      repeat (first | (with_reducible exact Below.refl _ _) | (with_reducible exact fb.out) | (with_reducible refine below_drewN' ?_ _) | (with_reducible refine below_drew ?_) | (with_reducible refine below_set ?_ (by simp; done)) | (with_reducible refine below_set ?_ (by omega)) | (with_reducible refine below_alloc ?_ _))
set_option maxRecDepth 100000 in
set_option maxHeartbeats 1000000 in
theorem l3enter_any (n : NetT) (u : (Option Addr × Nat) × (Option Addr × Nat)) (x : EndT) (w : World) (hr : RdNet 67 w u n) (hp : 0 ≤ x.piece) (hl : x.piece < (n.pieces.length : Int)) :
    Calls Try.prog 143 #[.agg #[.slice u.1.1 n.pieces.length u.1.2, .slice u.2.1 n.joints.length u.2.2], .agg #[.int .i64 x.piece, .int .i64 x.side]] w fun e w' => e = .returned (.agg #[.int .i64 (enterS n x).piece, .int .i64 (enterS n x).at_, .int .i64 (enterS n x).way]) ∧ Below w.heap.size w w' := by
  have hm := hr.1.1.2.1
  obtain ⟨⟨A0, c0⟩, ⟨A1, c1⟩⟩ := u
  obtain ⟨sp, sd⟩ := x
  simp only at hp hl ⊢
  obtain ⟨i, hi⟩ := Int.eq_ofNat_of_zero_le hp
  subst hi
  have hlt : i < n.pieces.length := by omega
  obtain ⟨ad0, e0, y0, y1, y2, y3⟩ := at_Piece hr.1.1 i hlt
  simp only at e0
  subst e0
  clear hr hp y0 y2 y3
  obtain ⟨L, hL⟩ : ∃ L, L = (n.pieces.getD i default).len := ⟨_, rfl⟩
  rw [← hL] at y1
  have HL := Aside0.mk (show lenP n (i : Int) = L by unfold lenP; rw [Int.toNat_natCast, hL])
  clear hL
  obtain ⟨W0, hW0, hN, hS, fb0, hsz⟩ := box2 w [.slice (some ad0) n.pieces.length c0, .slice A1 n.joints.length c1] [.int .i64 i, .int .i64 sd] 35 67
  obtain ⟨W1, hW1⟩ : ∃ W1, W1 = W0.alloc (.cells #[.int .i64 0, .int .i64 0, .int .i64 0] 38) := ⟨_, rfl⟩
  have fb := Aside0.mk (show Below w.heap.size w W1 by rw [hW1]; exact below_alloc fb0 _)
  have hX : Bx W1 (w.heap.size + 2) [.int .i64 0, .int .i64 0, .int .i64 0] := by rw [hW1, ← hsz]; exact Bx.new W0 _ 38
  have hN1 := hN.alloc (.cells #[.int .i64 0, .int .i64 0, .int .i64 0] 38)
  have hS1 := hS.alloc (.cells #[.int .i64 0, .int .i64 0, .int .i64 0] 38)
  rw [← hW1] at hN1 hS1
  have n0 := hN1.c 0 _ rfl
  have m0 := hS1.c 0 _ rfl
  have m1 := hS1.c 1 _ rfl
  have x0 := hX.c 0 _ rfl
  have x1 := hX.c 1 _ rfl
  have x2 := hX.c 2 _ rfl
  have xf0 := hX.f 0
  have xf1 := hX.f 1
  have xf2 := hX.f 2
  have hsz2 := hX.lt
  replace y1 := pw_cell_below fb.out y1
  have HW := Aside0.mk (show W1 = ((w.alloc (.cells #[.slice (some ad0) n.pieces.length c0, .slice A1 n.joints.length c1] 35)).alloc (.cells #[.int .i64 i, .int .i64 sd] 67)).alloc (.cells #[.int .i64 0, .int .i64 0, .int .i64 0] 38) by rw [hW1, hW0])
  clear hW0 hW1 fb0 hN hS hN1 hS1 hX hsz
  by_cases h : sd = 0
  · subst h
    have HV : Aside0 ((Value.agg #[.int .i64 (enterS n ⟨i, 0⟩).piece, .int .i64 (enterS n ⟨i, 0⟩).at_, .int .i64 (enterS n ⟨i, 0⟩).way]) = .agg #[.int .i64 i, .int .i64 0, .int .i64 1]) := ⟨by unfold enterS; simp⟩
    go_enter Try.func143, Try.ntmps143
    go_wp2
    refine bodyPost_ret (v := .agg #[.int .i64 i, .int .i64 0, .int .i64 1]) (by simp [results, Try.results143, go_sem, x0, x1, x2, hsz2]) rfl ⟨by rw [HV.out], ?_⟩
    repeat (first | (with_reducible exact Below.refl _ _) | (with_reducible exact fb.out) | (with_reducible refine below_drewN' ?_ _) | (with_reducible refine below_drew ?_) | (with_reducible refine below_set ?_ (by simp; done)) | (with_reducible refine below_set ?_ (by omega)) | (with_reducible refine below_alloc ?_ _))
  · have h1 : (sd == 0) = false := by simpa using h
    have HV : Aside0 ((Value.agg #[.int .i64 (enterS n ⟨i, sd⟩).piece, .int .i64 (enterS n ⟨i, sd⟩).at_, .int .i64 (enterS n ⟨i, sd⟩).way]) = .agg #[.int .i64 i, .int .i64 L, .int .i64 (-1)]) := ⟨by unfold enterS; simp [h, HL.out]⟩
    clear h
    go_enter Try.func143, Try.ntmps143
    go_wp2
    try rw [← HW.out]
    go_region
    all_goals
      try go_wp2
      refine bodyPost_ret (v := .agg #[.int .i64 i, .int .i64 L, .int .i64 (-1)]) (by simp [results, Try.results143, go_sem, x0, x1, x2, hsz2]) rfl ⟨by rw [HV.out], ?_⟩
      repeat (first | (with_reducible exact Below.refl _ _) | (with_reducible exact fb.out) | (with_reducible refine below_drewN' ?_ _) | (with_reducible refine below_drew ?_) | (with_reducible refine below_set ?_ (by simp; done)) | (with_reducible refine below_set ?_ (by omega)) | (with_reducible refine below_alloc ?_ _))
set_option maxRecDepth 100000 in
set_option maxHeartbeats 1000000 in
theorem enter_any (n : NetT) (u : (Option Addr × Nat) × (Option Addr × Nat)) (x : EndT) (w : World) (hr : RdNet 67 w u n) (hp : 0 ≤ x.piece) (hl : x.piece < (n.pieces.length : Int)) :
    Calls Try.prog 141 #[.agg #[.slice u.1.1 n.pieces.length u.1.2, .slice u.2.1 n.joints.length u.2.2], .agg #[.int .i64 x.piece, .int .i64 x.side]] w fun e w' => e = .returned (.agg #[.int .i64 (enterS n x).piece, .int .i64 (enterS n x).at_, .int .i64 (enterS n x).way]) ∧ Below w.heap.size w w' := by
  have hm := hr.1.1.2.1
  obtain ⟨⟨A0, c0⟩, ⟨A1, c1⟩⟩ := u
  obtain ⟨sp, sd⟩ := x
  simp only at hp hl ⊢
  obtain ⟨i, hi⟩ := Int.eq_ofNat_of_zero_le hp
  subst hi
  have hlt : i < n.pieces.length := by omega
  obtain ⟨ad0, e0, y0, y1, y2, y3⟩ := at_Piece hr.1.1 i hlt
  simp only at e0
  subst e0
  clear hr hp y0 y2 y3
  obtain ⟨L, hL⟩ : ∃ L, L = (n.pieces.getD i default).len := ⟨_, rfl⟩
  rw [← hL] at y1
  have HL := Aside0.mk (show lenP n (i : Int) = L by unfold lenP; rw [Int.toNat_natCast, hL])
  clear hL
  obtain ⟨W0, hW0, hN, hS, fb0, hsz⟩ := box2 w [.slice (some ad0) n.pieces.length c0, .slice A1 n.joints.length c1] [.int .i64 i, .int .i64 sd] 35 67
  obtain ⟨W1, hW1⟩ : ∃ W1, W1 = W0.alloc (.cells #[.int .i64 0, .int .i64 0, .int .i64 0] 38) := ⟨_, rfl⟩
  have fb := Aside0.mk (show Below w.heap.size w W1 by rw [hW1]; exact below_alloc fb0 _)
  have hX : Bx W1 (w.heap.size + 2) [.int .i64 0, .int .i64 0, .int .i64 0] := by rw [hW1, ← hsz]; exact Bx.new W0 _ 38
  have hN1 := hN.alloc (.cells #[.int .i64 0, .int .i64 0, .int .i64 0] 38)
  have hS1 := hS.alloc (.cells #[.int .i64 0, .int .i64 0, .int .i64 0] 38)
  rw [← hW1] at hN1 hS1
  have n0 := hN1.c 0 _ rfl
  have m0 := hS1.c 0 _ rfl
  have m1 := hS1.c 1 _ rfl
  have x0 := hX.c 0 _ rfl
  have x1 := hX.c 1 _ rfl
  have x2 := hX.c 2 _ rfl
  have xf0 := hX.f 0
  have xf1 := hX.f 1
  have xf2 := hX.f 2
  have hsz2 := hX.lt
  replace y1 := pw_cell_below fb.out y1
  have HW := Aside0.mk (show W1 = ((w.alloc (.cells #[.slice (some ad0) n.pieces.length c0, .slice A1 n.joints.length c1] 35)).alloc (.cells #[.int .i64 i, .int .i64 sd] 67)).alloc (.cells #[.int .i64 0, .int .i64 0, .int .i64 0] 38) by rw [hW1, hW0])
  clear hW0 hW1 fb0 hN hS hN1 hS1 hX hsz
  by_cases h : sd = 0
  · subst h
    have HV : Aside0 ((Value.agg #[.int .i64 (enterS n ⟨i, 0⟩).piece, .int .i64 (enterS n ⟨i, 0⟩).at_, .int .i64 (enterS n ⟨i, 0⟩).way]) = .agg #[.int .i64 i, .int .i64 0, .int .i64 1]) := ⟨by unfold enterS; simp⟩
    go_enter Try.func141, Try.ntmps141
    go_wp2
    refine bodyPost_ret (v := .agg #[.int .i64 i, .int .i64 0, .int .i64 1]) (by simp [results, Try.results141, go_sem, x0, x1, x2, hsz2]) rfl ⟨by rw [HV.out], ?_⟩
    repeat (first | (with_reducible exact Below.refl _ _) | (with_reducible exact fb.out) | (with_reducible refine below_drewN' ?_ _) | (with_reducible refine below_drew ?_) | (with_reducible refine below_set ?_ (by simp; done)) | (with_reducible refine below_set ?_ (by omega)) | (with_reducible refine below_alloc ?_ _))
  · have h1 : (sd == 0) = false := by simpa using h
    have HV : Aside0 ((Value.agg #[.int .i64 (enterS n ⟨i, sd⟩).piece, .int .i64 (enterS n ⟨i, sd⟩).at_, .int .i64 (enterS n ⟨i, sd⟩).way]) = .agg #[.int .i64 i, .int .i64 L, .int .i64 (-1)]) := ⟨by unfold enterS; simp [h, HL.out]⟩
    clear h
    go_enter Try.func141, Try.ntmps141
    go_wp2
    try rw [← HW.out]
    go_region
    all_goals
      try go_wp2
      refine bodyPost_ret (v := .agg #[.int .i64 i, .int .i64 L, .int .i64 (-1)]) (by simp [results, Try.results141, go_sem, x0, x1, x2, hsz2]) rfl ⟨by rw [HV.out], ?_⟩
      repeat (first | (with_reducible exact Below.refl _ _) | (with_reducible exact fb.out) | (with_reducible refine below_drewN' ?_ _) | (with_reducible refine below_drew ?_) | (with_reducible refine below_set ?_ (by simp; done)) | (with_reducible refine below_set ?_ (by omega)) | (with_reducible refine below_alloc ?_ _))
end Go.Proofs.Ytckcffjnffcjcaa
namespace Go.Proofs.Ytckcffjnffcjcaa
open Go.RowKit Go.Proofs.YtckcffjnffcjcaaW.PrintWords
def lieB (n : NetT) (lies : List Int) (i : Nat) : Bool := inB (lies.getD i 0) 0 2 && (lies.getD i 0 == 0 || (n.joints.getD i default).kind == 3)
theorem liesB_len {n : NetT} {lies : List Int} (h : lies.length ≠ n.joints.length) : liesB n lies = false := by unfold liesB; rw [decide_eq_false h]; rfl
theorem liesB_all {n : NetT} {lies : List Int} (h : lies.length = n.joints.length) (ha : ∀ k, k < lies.length → lieB n lies k = true) : liesB n lies = true := by
  unfold liesB; rw [decide_eq_true h, Bool.true_and, List.all_eq_true]
  exact fun i hi => ha i (List.mem_range.1 hi)
theorem liesB_one {n : NetT} {lies : List Int} {i : Nat} (h : i < lies.length) (ha : lieB n lies i = false) : liesB n lies = false := by
  unfold liesB
  have : (List.range lies.length).all (fun i => inB (lies.getD i 0) 0 2 && (lies.getD i 0 == 0 || (n.joints.getD i default).kind == 3)) = false := by
    rw [Bool.eq_false_iff]
    intro h2
    have h3 := List.all_eq_true.1 h2 i (List.mem_range.2 h)
    have h4 : lieB n lies i = true := h3
    rw [ha] at h4; cases h4
  rw [this, Bool.and_false]
set_option maxRecDepth 100000 in
set_option maxHeartbeats 2000000 in
theorem l3lies_any (n : NetT) (u : (Option Addr × Nat) × (Option Addr × Nat)) (v : Option Addr × Nat) (lies : List Int) (w : World) (hr : RdNet 67 w u n) (hl : Kd.C (Kd.int .i64) w v.1 lies.length lies) :
    Calls Try.prog 171 #[.agg #[.slice u.1.1 n.pieces.length u.1.2, .slice u.2.1 n.joints.length u.2.2], .slice v.1 lies.length v.2] w fun e w' => e = .returned (.bool (liesB n lies)) ∧ Below w.heap.size w w' := by
  have hm := hr.2.1.2.1
  have hlm := hl.2.1
  have HJ := Aside0.mk hr.2.1
  have HL := Aside0.mk hl
  clear hr hl
  obtain ⟨⟨A0, c0⟩, ⟨A1, c1⟩⟩ := u
  obtain ⟨A2, c2⟩ := v
  simp only at HJ HL ⊢
  obtain ⟨W0, hW0⟩ : ∃ W0, W0 = w.alloc (.cells #[.slice A0 n.pieces.length c0, .slice A1 n.joints.length c1] 35) := ⟨_, rfl⟩
  have HN : Aside0 (Bx W0 w.heap.size [.slice A0 n.pieces.length c0, .slice A1 n.joints.length c1]) := ⟨by rw [hW0]; exact Bx.new w _ 35⟩
  have fb := Aside0.mk (show Below w.heap.size w W0 by rw [hW0]; exact below_alloc (Below.refl _ _) _)
  have HW := Aside0.mk hW0
  clear hW0
  by_cases hne : lies.length = n.joints.length
  · have hne' : ((lies.length : Int) != (n.joints.length : Int)) = false := by simp [hne]
    have HE := Aside0.mk hne
    clear hne
    go_enter Try.func171, Try.ntmps171
    go_wp2
    rw [← HW.out]
    clear hne'
    go_loopw [15] (fun v15 wr => ∃ (i : Nat), v15 = .int .i64 i ∧ i ≤ lies.length ∧ Aside0 (∀ k, k < i → lieB n lies k = true) ∧ Aside0 (Below W0.heap.size W0 wr)) (fun v15 _ => lies.length - (intOf v15).toNat)
    case atStart => exact ⟨0, rfl, Nat.zero_le _, ⟨fun k hk => by omega⟩, ⟨Below.refl _ _⟩⟩
    case round =>
      obtain ⟨i, rfl, hi, HT, HB⟩ := hrel
      have HBw := Aside0.mk (below_more fb.out HB.out)
      by_cases hlt : i < lies.length
      · obtain ⟨ad, e0, y0⟩ := at_Int HL.out i hlt
        obtain ⟨ad1, A3, k3, e1, x0, x1, x2, m0, g0⟩ := at_Joint HJ.out i (by have := HE.out; omega)
        subst e0
        subst e1
        clear x1 x2 m0 g0
        replace y0 := pw_cell_below HBw.out y0
        replace x0 := pw_cell_below HBw.out x0
        have n1 := (HN.out.below HB.out).c 1 _ rfl
        have hij : (i : Int) < (n.joints.length : Int) := by have := HE.out; omega
        obtain ⟨x, hx⟩ : ∃ x, x = lies.getD i 0 := ⟨_, rfl⟩
        obtain ⟨kd, hkd⟩ : ∃ kd, kd = (n.joints.getD i default).kind := ⟨_, rfl⟩
        rw [← hx] at y0
        rw [← hkd] at x0
        have HLB : Aside0 (lieB n lies i = (inB x 0 2 && (x == 0 || kd == 3))) := ⟨by unfold lieB; rw [hx, hkd]⟩
        clear hx hkd
        by_cases h1 : 0 ≤ x ∧ x ≤ 2
        · have hin := inB_true.2 h1
          by_cases h2 : x = 0
          · have HT1 : Aside0 (lieB n lies i = true) := ⟨by rw [HLB.out, hin]; simp [h2]⟩
            subst h2
            have HIN := Aside0.mk hin
            clear hin
            go_wp2_with (go_at_call 119; refine (l1in_any _ _ _ _).mono ?_; rintro e w3 ⟨rfl, rfl⟩; rw [HIN.out])
            go_roundw
            case rel => exact ⟨i + 1, by go_num, by omega, ⟨upto_step HT.out HT1.out⟩, HB⟩
            case measure => simp [intOf]; omega
          · have b2 : (x != 0) = true := by simpa using h2
            have b4 : decide (0 < x) = true := by simp; omega
            have b5 : (0 : Int) < x := by omega
            by_cases h3 : kd = 3
            · have b3 : (kd != 3) = false := by simp [h3]
              have HT1 : Aside0 (lieB n lies i = true) := ⟨by rw [HLB.out, hin]; simp [h3]⟩
              have HIN := Aside0.mk hin
              clear hin
              go_wp2_with (go_at_call 119; refine (l1in_any _ _ _ _).mono ?_; rintro e w3 ⟨rfl, rfl⟩; rw [HIN.out])
              go_roundw
              case rel => exact ⟨i + 1, by go_num, by omega, ⟨upto_step HT.out HT1.out⟩, HB⟩
              case measure => simp [intOf]; omega
            · have b3 : (kd != 3) = true := by simpa using h3
              have HR : Aside0 (liesB n lies = false) := ⟨liesB_one hlt (by rw [HLB.out, hin]; simp [h2, h3])⟩
              have HIN := Aside0.mk hin
              clear hin
              go_wp2_with (go_at_call 119; refine (l1in_any _ _ _ _).mono ?_; rintro e w3 ⟨rfl, rfl⟩; rw [HIN.out])
              go_ret
              exact ⟨by rw [HR.out]; rfl, HBw.out⟩
        · have hin := inB_false.2 h1
          have HR : Aside0 (liesB n lies = false) := ⟨liesB_one hlt (by rw [HLB.out, hin]; rfl)⟩
          have HIN := Aside0.mk hin
          clear hin
          by_cases h4 : x < 0
          · go_wp2_with (go_at_call 119; refine (l1in_any _ _ _ _).mono ?_; rintro e w3 ⟨rfl, rfl⟩; rw [HIN.out])
            go_ret
            exact ⟨by rw [HR.out]; rfl, HBw.out⟩
          · have h5 : 2 < x := by omega
            go_wp2_with (go_at_call 119; refine (l1in_any _ _ _ _).mono ?_; rintro e w3 ⟨rfl, rfl⟩; rw [HIN.out])
            go_ret
            exact ⟨by rw [HR.out]; rfl, HBw.out⟩
      · have HR : Aside0 (liesB n lies = true) := ⟨liesB_all HE.out (fun k hk => HT.out k (by omega))⟩
        go_wp2
        go_ret
        exact ⟨by rw [HR.out]; rfl, HBw.out⟩
  · have hne' : ((lies.length : Int) != (n.joints.length : Int)) = true := by simp; omega
    have HE := Aside0.mk (liesB_len hne)
    go_enter Try.func171, Try.ntmps171
    go_wp2
    go_ret
    exact ⟨by rw [HE.out]; rfl, below_alloc (Below.refl _ _) _⟩
set_option maxRecDepth 100000 in
set_option maxHeartbeats 2000000 in
theorem liesOk_any (n : NetT) (u : (Option Addr × Nat) × (Option Addr × Nat)) (v : Option Addr × Nat) (lies : List Int) (w : World) (hr : RdNet 67 w u n) (hl : Kd.C (Kd.int .i64) w v.1 lies.length lies) :
    Calls Try.prog 169 #[.agg #[.slice u.1.1 n.pieces.length u.1.2, .slice u.2.1 n.joints.length u.2.2], .slice v.1 lies.length v.2] w fun e w' => e = .returned (.bool (liesB n lies)) ∧ Below w.heap.size w w' := by
  have hm := hr.2.1.2.1
  have hlm := hl.2.1
  have HJ := Aside0.mk hr.2.1
  have HL := Aside0.mk hl
  clear hr hl
  obtain ⟨⟨A0, c0⟩, ⟨A1, c1⟩⟩ := u
  obtain ⟨A2, c2⟩ := v
  simp only at HJ HL ⊢
  obtain ⟨W0, hW0⟩ : ∃ W0, W0 = w.alloc (.cells #[.slice A0 n.pieces.length c0, .slice A1 n.joints.length c1] 35) := ⟨_, rfl⟩
  have HN : Aside0 (Bx W0 w.heap.size [.slice A0 n.pieces.length c0, .slice A1 n.joints.length c1]) := ⟨by rw [hW0]; exact Bx.new w _ 35⟩
  have fb := Aside0.mk (show Below w.heap.size w W0 by rw [hW0]; exact below_alloc (Below.refl _ _) _)
  have HW := Aside0.mk hW0
  clear hW0
  by_cases hne : lies.length = n.joints.length
  · have hne' : ((lies.length : Int) != (n.joints.length : Int)) = false := by simp [hne]
    have HE := Aside0.mk hne
    clear hne
    go_enter Try.func169, Try.ntmps169
    go_wp2
    rw [← HW.out]
    clear hne'
    go_loopw [15] (fun v15 wr => ∃ (i : Nat), v15 = .int .i64 i ∧ i ≤ lies.length ∧ Aside0 (∀ k, k < i → lieB n lies k = true) ∧ Aside0 (Below W0.heap.size W0 wr)) (fun v15 _ => lies.length - (intOf v15).toNat)
    case atStart => exact ⟨0, rfl, Nat.zero_le _, ⟨fun k hk => by omega⟩, ⟨Below.refl _ _⟩⟩
    case round =>
      obtain ⟨i, rfl, hi, HT, HB⟩ := hrel
      have HBw := Aside0.mk (below_more fb.out HB.out)
      by_cases hlt : i < lies.length
      · obtain ⟨ad, e0, y0⟩ := at_Int HL.out i hlt
        obtain ⟨ad1, A3, k3, e1, x0, x1, x2, m0, g0⟩ := at_Joint HJ.out i (by have := HE.out; omega)
        subst e0
        subst e1
        clear x1 x2 m0 g0
        replace y0 := pw_cell_below HBw.out y0
        replace x0 := pw_cell_below HBw.out x0
        have n1 := (HN.out.below HB.out).c 1 _ rfl
        have hij : (i : Int) < (n.joints.length : Int) := by have := HE.out; omega
        obtain ⟨x, hx⟩ : ∃ x, x = lies.getD i 0 := ⟨_, rfl⟩
        obtain ⟨kd, hkd⟩ : ∃ kd, kd = (n.joints.getD i default).kind := ⟨_, rfl⟩
        rw [← hx] at y0
        rw [← hkd] at x0
        have HLB : Aside0 (lieB n lies i = (inB x 0 2 && (x == 0 || kd == 3))) := ⟨by unfold lieB; rw [hx, hkd]⟩
        clear hx hkd
        by_cases h1 : 0 ≤ x ∧ x ≤ 2
        · have hin := inB_true.2 h1
          by_cases h2 : x = 0
          · have HT1 : Aside0 (lieB n lies i = true) := ⟨by rw [HLB.out, hin]; simp [h2]⟩
            subst h2
            have HIN := Aside0.mk hin
            clear hin
            go_wp2
            go_roundw
            case rel => exact ⟨i + 1, by go_num, by omega, ⟨upto_step HT.out HT1.out⟩, HB⟩
            case measure => simp [intOf]; omega
          · have b2 : (x != 0) = true := by simpa using h2
            have b4 : decide (0 < x) = true := by simp; omega
            have b5 : (0 : Int) < x := by omega
            by_cases h3 : kd = 3
            · have b3 : (kd != 3) = false := by simp [h3]
              have HT1 : Aside0 (lieB n lies i = true) := ⟨by rw [HLB.out, hin]; simp [h3]⟩
              have HIN := Aside0.mk hin
              clear hin
              go_wp2
              go_roundw
              case rel => exact ⟨i + 1, by go_num, by omega, ⟨upto_step HT.out HT1.out⟩, HB⟩
              case measure => simp [intOf]; omega
            · have b3 : (kd != 3) = true := by simpa using h3
              have HR : Aside0 (liesB n lies = false) := ⟨liesB_one hlt (by rw [HLB.out, hin]; simp [h2, h3])⟩
              have HIN := Aside0.mk hin
              clear hin
              go_wp2
              go_ret
              exact ⟨by rw [HR.out]; rfl, HBw.out⟩
        · have hin := inB_false.2 h1
          have HR : Aside0 (liesB n lies = false) := ⟨liesB_one hlt (by rw [HLB.out, hin]; rfl)⟩
          have HIN := Aside0.mk hin
          clear hin
          by_cases h4 : x < 0
          · go_wp2
            go_ret
            exact ⟨by rw [HR.out]; rfl, HBw.out⟩
          · have h5 : 2 < x := by omega
            go_wp2
            go_ret
            exact ⟨by rw [HR.out]; rfl, HBw.out⟩
      · have HR : Aside0 (liesB n lies = true) := ⟨liesB_all HE.out (fun k hk => HT.out k (by omega))⟩
        go_wp2
        go_ret
        exact ⟨by rw [HR.out]; rfl, HBw.out⟩
  · have hne' : ((lies.length : Int) != (n.joints.length : Int)) = true := by simp; omega
    have HE := Aside0.mk (liesB_len hne)
    go_enter Try.func169, Try.ntmps169
    go_wp2
    go_ret
    exact ⟨by rw [HE.out]; rfl, below_alloc (Below.refl _ _) _⟩
end Go.Proofs.Ytckcffjnffcjcaa
namespace Go.Proofs.Ytckcffjnffcjcaa
open Go.RowKit Go.Proofs.YtckcffjnffcjcaaW.PrintWords
def goB (n : NetT) (lies : List Int) (s : SpotT) (left : Int) : Bool := netGood n && liesB n lies && spotB n s && inB left 0 1000000
set_option maxRecDepth 100000 in
set_option maxHeartbeats 1000000 in
theorem l3good_any (n : NetT) (u : (Option Addr × Nat) × (Option Addr × Nat)) (v : Option Addr × Nat) (lies : List Int) (s : SpotT) (left : Int) (w : World) (hr : RdNet 67 w u n) (hl : Kd.C (Kd.int .i64) w v.1 lies.length lies) (hf : NetFits n) :
    Calls Try.prog 114 #[.agg #[.slice u.1.1 n.pieces.length u.1.2, .slice u.2.1 n.joints.length u.2.2], .slice v.1 lies.length v.2, .agg #[.int .i64 s.piece, .int .i64 s.at_, .int .i64 s.way], .int .i64 left] w fun e w' => e = .returned (.bool (goB n lies s left)) ∧ Below w.heap.size w w' := by
  have HR := Aside0.mk hr
  have HL := Aside0.mk hl
  have HF := Aside0.mk hf
  clear hr hl hf
  obtain ⟨⟨A0, c0⟩, ⟨A1, c1⟩⟩ := u
  obtain ⟨A2, c2⟩ := v
  simp only at HL ⊢
  obtain ⟨W0, hW0, hN, hS, fb0, hsz⟩ := box2 w [.slice A0 n.pieces.length c0, .slice A1 n.joints.length c1] [.int .i64 s.piece, .int .i64 s.at_, .int .i64 s.way] 35 38
  have fb := Aside0.mk fb0
  have HN := Aside0.mk hN
  have HS := Aside0.mk hS
  have HW := Aside0.mk hW0
  clear hW0 fb0 hN hS hsz
  cases h1 : netGood n with
  | false =>
    have HV : Aside0 (goB n lies s left = false) := ⟨by unfold goB; rw [h1]; rfl⟩
    have H1 := Aside0.mk h1
    clear h1
    go_enter Try.func114, Try.ntmps114
    go_wp2_with (first | (go_at_call 128; rw [← HW.out]; refine (l1ok_any n ((A0, c0), (A1, c1)) _ (HR.out.below fb.out) HF.out).mono ?_; rintro e w3 ⟨rfl, hb3⟩; rw [H1.out]; have B3 := Aside0.mk hb3; have D3 := Aside0.mk (below_more fb.out hb3); clear hb3; have n0 := (HN.out.below B3.out).c 0 _ rfl; have n1 := (HN.out.below B3.out).c 1 _ rfl; have m0 := (HS.out.below B3.out).c 0 _ rfl; have m1 := (HS.out.below B3.out).c 1 _ rfl; have m2 := (HS.out.below B3.out).c 2 _ rfl))
    go_ret
    exact ⟨by rw [HV.out]; first | rfl | (rw [K5.out]; rfl), D3.out⟩
  | true =>
    cases h2 : liesB n lies with
    | false =>
      have HV : Aside0 (goB n lies s left = false) := ⟨by unfold goB; rw [h1, h2]; rfl⟩
      have H1 := Aside0.mk h1
      clear h1
      have H2 := Aside0.mk h2
      clear h2
      go_enter Try.func114, Try.ntmps114
      go_wp2_with (first | (go_at_call 128; rw [← HW.out]; refine (l1ok_any n ((A0, c0), (A1, c1)) _ (HR.out.below fb.out) HF.out).mono ?_; rintro e w3 ⟨rfl, hb3⟩; rw [H1.out]; have B3 := Aside0.mk hb3; have D3 := Aside0.mk (below_more fb.out hb3); clear hb3; have n0 := (HN.out.below B3.out).c 0 _ rfl; have n1 := (HN.out.below B3.out).c 1 _ rfl; have m0 := (HS.out.below B3.out).c 0 _ rfl; have m1 := (HS.out.below B3.out).c 1 _ rfl; have m2 := (HS.out.below B3.out).c 2 _ rfl) | (go_at_call 171; refine (l3lies_any n ((A0, c0), (A1, c1)) (A2, c2) lies _ (HR.out.below D3.out) (Kd.C_below HL.out D3.out)).mono ?_; rintro e w4 ⟨rfl, hb4⟩; rw [H2.out]; have B4 := Aside0.mk (below_more B3.out hb4); have D4 := Aside0.mk (below_more D3.out hb4); clear hb4; have n0 := (HN.out.below B4.out).c 0 _ rfl; have n1 := (HN.out.below B4.out).c 1 _ rfl; have m0 := (HS.out.below B4.out).c 0 _ rfl; have m1 := (HS.out.below B4.out).c 1 _ rfl; have m2 := (HS.out.below B4.out).c 2 _ rfl))
      go_ret
      exact ⟨by rw [HV.out]; first | rfl | (rw [K5.out]; rfl), D4.out⟩
    | true =>
      cases h3 : spotB n s with
      | false =>
        have HV : Aside0 (goB n lies s left = false) := ⟨by unfold goB; rw [h1, h2, h3]; rfl⟩
        have H1 := Aside0.mk h1
        clear h1
        have H2 := Aside0.mk h2
        clear h2
        have H3 := Aside0.mk h3
        clear h3
        go_enter Try.func114, Try.ntmps114
        go_wp2_with (first | (go_at_call 128; rw [← HW.out]; refine (l1ok_any n ((A0, c0), (A1, c1)) _ (HR.out.below fb.out) HF.out).mono ?_; rintro e w3 ⟨rfl, hb3⟩; rw [H1.out]; have B3 := Aside0.mk hb3; have D3 := Aside0.mk (below_more fb.out hb3); clear hb3; have n0 := (HN.out.below B3.out).c 0 _ rfl; have n1 := (HN.out.below B3.out).c 1 _ rfl; have m0 := (HS.out.below B3.out).c 0 _ rfl; have m1 := (HS.out.below B3.out).c 1 _ rfl; have m2 := (HS.out.below B3.out).c 2 _ rfl) | (go_at_call 171; refine (l3lies_any n ((A0, c0), (A1, c1)) (A2, c2) lies _ (HR.out.below D3.out) (Kd.C_below HL.out D3.out)).mono ?_; rintro e w4 ⟨rfl, hb4⟩; rw [H2.out]; have B4 := Aside0.mk (below_more B3.out hb4); have D4 := Aside0.mk (below_more D3.out hb4); clear hb4; have n0 := (HN.out.below B4.out).c 0 _ rfl; have n1 := (HN.out.below B4.out).c 1 _ rfl; have m0 := (HS.out.below B4.out).c 0 _ rfl; have m1 := (HS.out.below B4.out).c 1 _ rfl; have m2 := (HS.out.below B4.out).c 2 _ rfl) | (go_at_call 129; refine (l3spot_any n ((A0, c0), (A1, c1)) s _ (HR.out.below D4.out)).mono ?_; rintro e w5 ⟨rfl, hb5⟩; rw [H3.out]; have D5 := Aside0.mk (below_more D4.out hb5); clear hb5))
        go_ret
        exact ⟨by rw [HV.out]; first | rfl | (rw [K5.out]; rfl), D5.out⟩
      | true =>
        cases h4 : inB left 0 1000000 with
        | false =>
          have HV : Aside0 (goB n lies s left = false) := ⟨by unfold goB; rw [h1, h2, h3, h4]; rfl⟩
          have H1 := Aside0.mk h1
          clear h1
          have H2 := Aside0.mk h2
          clear h2
          have H3 := Aside0.mk h3
          clear h3
          have H4 := Aside0.mk h4
          clear h4
          go_enter Try.func114, Try.ntmps114
          go_wp2_with (first | (go_at_call 128; rw [← HW.out]; refine (l1ok_any n ((A0, c0), (A1, c1)) _ (HR.out.below fb.out) HF.out).mono ?_; rintro e w3 ⟨rfl, hb3⟩; rw [H1.out]; have B3 := Aside0.mk hb3; have D3 := Aside0.mk (below_more fb.out hb3); clear hb3; have n0 := (HN.out.below B3.out).c 0 _ rfl; have n1 := (HN.out.below B3.out).c 1 _ rfl; have m0 := (HS.out.below B3.out).c 0 _ rfl; have m1 := (HS.out.below B3.out).c 1 _ rfl; have m2 := (HS.out.below B3.out).c 2 _ rfl) | (go_at_call 171; refine (l3lies_any n ((A0, c0), (A1, c1)) (A2, c2) lies _ (HR.out.below D3.out) (Kd.C_below HL.out D3.out)).mono ?_; rintro e w4 ⟨rfl, hb4⟩; rw [H2.out]; have B4 := Aside0.mk (below_more B3.out hb4); have D4 := Aside0.mk (below_more D3.out hb4); clear hb4; have n0 := (HN.out.below B4.out).c 0 _ rfl; have n1 := (HN.out.below B4.out).c 1 _ rfl; have m0 := (HS.out.below B4.out).c 0 _ rfl; have m1 := (HS.out.below B4.out).c 1 _ rfl; have m2 := (HS.out.below B4.out).c 2 _ rfl) | (go_at_call 129; refine (l3spot_any n ((A0, c0), (A1, c1)) s _ (HR.out.below D4.out)).mono ?_; rintro e w5 ⟨rfl, hb5⟩; rw [H3.out]; have D5 := Aside0.mk (below_more D4.out hb5); clear hb5) | (go_at_call 119; refine (l1in_any _ _ _ _).mono ?_; rintro e w6 ⟨rfl, rfl⟩; rw [H4.out]))
          go_ret
          exact ⟨by rw [HV.out]; first | rfl | (rw [K5.out]; rfl), D5.out⟩
        | true =>
          have HV : Aside0 (goB n lies s left = true) := ⟨by unfold goB; rw [h1, h2, h3, h4]; rfl⟩
          have H1 := Aside0.mk h1
          clear h1
          have H2 := Aside0.mk h2
          clear h2
          have H3 := Aside0.mk h3
          clear h3
          have H4 := Aside0.mk h4
          clear h4
          go_enter Try.func114, Try.ntmps114
          go_wp2_with (first | (go_at_call 128; rw [← HW.out]; refine (l1ok_any n ((A0, c0), (A1, c1)) _ (HR.out.below fb.out) HF.out).mono ?_; rintro e w3 ⟨rfl, hb3⟩; rw [H1.out]; have B3 := Aside0.mk hb3; have D3 := Aside0.mk (below_more fb.out hb3); clear hb3; have n0 := (HN.out.below B3.out).c 0 _ rfl; have n1 := (HN.out.below B3.out).c 1 _ rfl; have m0 := (HS.out.below B3.out).c 0 _ rfl; have m1 := (HS.out.below B3.out).c 1 _ rfl; have m2 := (HS.out.below B3.out).c 2 _ rfl) | (go_at_call 171; refine (l3lies_any n ((A0, c0), (A1, c1)) (A2, c2) lies _ (HR.out.below D3.out) (Kd.C_below HL.out D3.out)).mono ?_; rintro e w4 ⟨rfl, hb4⟩; rw [H2.out]; have B4 := Aside0.mk (below_more B3.out hb4); have D4 := Aside0.mk (below_more D3.out hb4); clear hb4; have n0 := (HN.out.below B4.out).c 0 _ rfl; have n1 := (HN.out.below B4.out).c 1 _ rfl; have m0 := (HS.out.below B4.out).c 0 _ rfl; have m1 := (HS.out.below B4.out).c 1 _ rfl; have m2 := (HS.out.below B4.out).c 2 _ rfl) | (go_at_call 129; refine (l3spot_any n ((A0, c0), (A1, c1)) s _ (HR.out.below D4.out)).mono ?_; rintro e w5 ⟨rfl, hb5⟩; rw [H3.out]; have D5 := Aside0.mk (below_more D4.out hb5); clear hb5) | (go_at_call 119; refine (l1in_any _ _ _ _).mono ?_; rintro e w6 ⟨rfl, rfl⟩; rw [H4.out]))
          go_ret
          exact ⟨by rw [HV.out]; first | rfl | (rw [K5.out]; rfl), D5.out⟩
set_option maxRecDepth 100000 in
set_option maxHeartbeats 1000000 in
theorem driveOk_any (n : NetT) (u : (Option Addr × Nat) × (Option Addr × Nat)) (v : Option Addr × Nat) (lies : List Int) (s : SpotT) (left : Int) (w : World) (hr : RdNet 67 w u n) (hl : Kd.C (Kd.int .i64) w v.1 lies.length lies) (hf : NetFits n) :
    Calls Try.prog 111 #[.agg #[.slice u.1.1 n.pieces.length u.1.2, .slice u.2.1 n.joints.length u.2.2], .slice v.1 lies.length v.2, .agg #[.int .i64 s.piece, .int .i64 s.at_, .int .i64 s.way], .int .i64 left] w fun e w' => e = .returned (.bool (goB n lies s left)) ∧ Below w.heap.size w w' := by
  have HR := Aside0.mk hr
  have HL := Aside0.mk hl
  have HF := Aside0.mk hf
  clear hr hl hf
  obtain ⟨⟨A0, c0⟩, ⟨A1, c1⟩⟩ := u
  obtain ⟨A2, c2⟩ := v
  simp only at HL ⊢
  obtain ⟨W0, hW0, hN, hS, fb0, hsz⟩ := box2 w [.slice A0 n.pieces.length c0, .slice A1 n.joints.length c1] [.int .i64 s.piece, .int .i64 s.at_, .int .i64 s.way] 35 38
  have fb := Aside0.mk fb0
  have HN := Aside0.mk hN
  have HS := Aside0.mk hS
  have HW := Aside0.mk hW0
  clear hW0 fb0 hN hS hsz
  cases h1 : netGood n with
  | false =>
    have HV : Aside0 (goB n lies s left = false) := ⟨by unfold goB; rw [h1]; rfl⟩
    have H1 := Aside0.mk h1
    clear h1
    go_enter Try.func111, Try.ntmps111
    go_wp2_with (first | (go_at_call 130; rw [← HW.out]; refine (good_any n ((A0, c0), (A1, c1)) _ (HR.out.below fb.out) HF.out).mono ?_; rintro e w3 ⟨rfl, hb3⟩; rw [H1.out]; have B3 := Aside0.mk hb3; have D3 := Aside0.mk (below_more fb.out hb3); clear hb3; have n0 := (HN.out.below B3.out).c 0 _ rfl; have n1 := (HN.out.below B3.out).c 1 _ rfl; have m0 := (HS.out.below B3.out).c 0 _ rfl; have m1 := (HS.out.below B3.out).c 1 _ rfl; have m2 := (HS.out.below B3.out).c 2 _ rfl))
    go_ret
    exact ⟨by rw [HV.out]; first | rfl | (rw [K5.out]; rfl), D3.out⟩
  | true =>
    cases h2 : liesB n lies with
    | false =>
      have HV : Aside0 (goB n lies s left = false) := ⟨by unfold goB; rw [h1, h2]; rfl⟩
      have H1 := Aside0.mk h1
      clear h1
      have H2 := Aside0.mk h2
      clear h2
      go_enter Try.func111, Try.ntmps111
      go_wp2_with (first | (go_at_call 130; rw [← HW.out]; refine (good_any n ((A0, c0), (A1, c1)) _ (HR.out.below fb.out) HF.out).mono ?_; rintro e w3 ⟨rfl, hb3⟩; rw [H1.out]; have B3 := Aside0.mk hb3; have D3 := Aside0.mk (below_more fb.out hb3); clear hb3; have n0 := (HN.out.below B3.out).c 0 _ rfl; have n1 := (HN.out.below B3.out).c 1 _ rfl; have m0 := (HS.out.below B3.out).c 0 _ rfl; have m1 := (HS.out.below B3.out).c 1 _ rfl; have m2 := (HS.out.below B3.out).c 2 _ rfl) | (go_at_call 169; refine (liesOk_any n ((A0, c0), (A1, c1)) (A2, c2) lies _ (HR.out.below D3.out) (Kd.C_below HL.out D3.out)).mono ?_; rintro e w4 ⟨rfl, hb4⟩; rw [H2.out]; have B4 := Aside0.mk (below_more B3.out hb4); have D4 := Aside0.mk (below_more D3.out hb4); clear hb4; have n0 := (HN.out.below B4.out).c 0 _ rfl; have n1 := (HN.out.below B4.out).c 1 _ rfl; have m0 := (HS.out.below B4.out).c 0 _ rfl; have m1 := (HS.out.below B4.out).c 1 _ rfl; have m2 := (HS.out.below B4.out).c 2 _ rfl))
      go_ret
      exact ⟨by rw [HV.out]; first | rfl | (rw [K5.out]; rfl), D4.out⟩
    | true =>
      cases h3 : spotB n s with
      | false =>
        have HV : Aside0 (goB n lies s left = false) := ⟨by unfold goB; rw [h1, h2, h3]; rfl⟩
        have H1 := Aside0.mk h1
        clear h1
        have H2 := Aside0.mk h2
        clear h2
        have H3 := Aside0.mk h3
        clear h3
        go_enter Try.func111, Try.ntmps111
        go_wp2_with (first | (go_at_call 130; rw [← HW.out]; refine (good_any n ((A0, c0), (A1, c1)) _ (HR.out.below fb.out) HF.out).mono ?_; rintro e w3 ⟨rfl, hb3⟩; rw [H1.out]; have B3 := Aside0.mk hb3; have D3 := Aside0.mk (below_more fb.out hb3); clear hb3; have n0 := (HN.out.below B3.out).c 0 _ rfl; have n1 := (HN.out.below B3.out).c 1 _ rfl; have m0 := (HS.out.below B3.out).c 0 _ rfl; have m1 := (HS.out.below B3.out).c 1 _ rfl; have m2 := (HS.out.below B3.out).c 2 _ rfl) | (go_at_call 169; refine (liesOk_any n ((A0, c0), (A1, c1)) (A2, c2) lies _ (HR.out.below D3.out) (Kd.C_below HL.out D3.out)).mono ?_; rintro e w4 ⟨rfl, hb4⟩; rw [H2.out]; have B4 := Aside0.mk (below_more B3.out hb4); have D4 := Aside0.mk (below_more D3.out hb4); clear hb4; have n0 := (HN.out.below B4.out).c 0 _ rfl; have n1 := (HN.out.below B4.out).c 1 _ rfl; have m0 := (HS.out.below B4.out).c 0 _ rfl; have m1 := (HS.out.below B4.out).c 1 _ rfl; have m2 := (HS.out.below B4.out).c 2 _ rfl) | (go_at_call 131; refine (spotOk_any n ((A0, c0), (A1, c1)) s _ (HR.out.below D4.out)).mono ?_; rintro e w5 ⟨rfl, hb5⟩; rw [H3.out]; have D5 := Aside0.mk (below_more D4.out hb5); clear hb5))
        go_ret
        exact ⟨by rw [HV.out]; first | rfl | (rw [K5.out]; rfl), D5.out⟩
      | true =>
        by_cases k1 : left < 0
        ·
          have h4 : inB left 0 1000000 = false := inB_false.2 (by omega)
          have HV : Aside0 (goB n lies s left = false) := ⟨by unfold goB; rw [h1, h2, h3, h4]; rfl⟩
          have H1 := Aside0.mk h1
          clear h1
          have H2 := Aside0.mk h2
          clear h2
          have H3 := Aside0.mk h3
          clear h3
          have H4 := Aside0.mk h4
          clear h4
          go_enter Try.func111, Try.ntmps111
          go_wp2_with (first | (go_at_call 130; rw [← HW.out]; refine (good_any n ((A0, c0), (A1, c1)) _ (HR.out.below fb.out) HF.out).mono ?_; rintro e w3 ⟨rfl, hb3⟩; rw [H1.out]; have B3 := Aside0.mk hb3; have D3 := Aside0.mk (below_more fb.out hb3); clear hb3; have n0 := (HN.out.below B3.out).c 0 _ rfl; have n1 := (HN.out.below B3.out).c 1 _ rfl; have m0 := (HS.out.below B3.out).c 0 _ rfl; have m1 := (HS.out.below B3.out).c 1 _ rfl; have m2 := (HS.out.below B3.out).c 2 _ rfl) | (go_at_call 169; refine (liesOk_any n ((A0, c0), (A1, c1)) (A2, c2) lies _ (HR.out.below D3.out) (Kd.C_below HL.out D3.out)).mono ?_; rintro e w4 ⟨rfl, hb4⟩; rw [H2.out]; have B4 := Aside0.mk (below_more B3.out hb4); have D4 := Aside0.mk (below_more D3.out hb4); clear hb4; have n0 := (HN.out.below B4.out).c 0 _ rfl; have n1 := (HN.out.below B4.out).c 1 _ rfl; have m0 := (HS.out.below B4.out).c 0 _ rfl; have m1 := (HS.out.below B4.out).c 1 _ rfl; have m2 := (HS.out.below B4.out).c 2 _ rfl) | (go_at_call 131; refine (spotOk_any n ((A0, c0), (A1, c1)) s _ (HR.out.below D4.out)).mono ?_; rintro e w5 ⟨rfl, hb5⟩; rw [H3.out]; have D5 := Aside0.mk (below_more D4.out hb5); clear hb5))
          go_ret
          exact ⟨by rw [HV.out]; first | rfl | (rw [K5.out]; rfl), D5.out⟩
        by_cases k2 : 1000000 < left
        ·
          have h4 : inB left 0 1000000 = false := inB_false.2 (by omega)
          have K5 : Aside0 (decide (left ≤ 1000000) = false) := ⟨by simp; omega⟩
          have HV : Aside0 (goB n lies s left = false) := ⟨by unfold goB; rw [h1, h2, h3, h4]; rfl⟩
          have H1 := Aside0.mk h1
          clear h1
          have H2 := Aside0.mk h2
          clear h2
          have H3 := Aside0.mk h3
          clear h3
          have H4 := Aside0.mk h4
          clear h4
          go_enter Try.func111, Try.ntmps111
          go_wp2_with (first | (go_at_call 130; rw [← HW.out]; refine (good_any n ((A0, c0), (A1, c1)) _ (HR.out.below fb.out) HF.out).mono ?_; rintro e w3 ⟨rfl, hb3⟩; rw [H1.out]; have B3 := Aside0.mk hb3; have D3 := Aside0.mk (below_more fb.out hb3); clear hb3; have n0 := (HN.out.below B3.out).c 0 _ rfl; have n1 := (HN.out.below B3.out).c 1 _ rfl; have m0 := (HS.out.below B3.out).c 0 _ rfl; have m1 := (HS.out.below B3.out).c 1 _ rfl; have m2 := (HS.out.below B3.out).c 2 _ rfl) | (go_at_call 169; refine (liesOk_any n ((A0, c0), (A1, c1)) (A2, c2) lies _ (HR.out.below D3.out) (Kd.C_below HL.out D3.out)).mono ?_; rintro e w4 ⟨rfl, hb4⟩; rw [H2.out]; have B4 := Aside0.mk (below_more B3.out hb4); have D4 := Aside0.mk (below_more D3.out hb4); clear hb4; have n0 := (HN.out.below B4.out).c 0 _ rfl; have n1 := (HN.out.below B4.out).c 1 _ rfl; have m0 := (HS.out.below B4.out).c 0 _ rfl; have m1 := (HS.out.below B4.out).c 1 _ rfl; have m2 := (HS.out.below B4.out).c 2 _ rfl) | (go_at_call 131; refine (spotOk_any n ((A0, c0), (A1, c1)) s _ (HR.out.below D4.out)).mono ?_; rintro e w5 ⟨rfl, hb5⟩; rw [H3.out]; have D5 := Aside0.mk (below_more D4.out hb5); clear hb5))
          go_ret
          exact ⟨by rw [HV.out]; first | rfl | (rw [K5.out]; rfl), D5.out⟩
        have h4 : inB left 0 1000000 = true := inB_true.2 (by omega)
        have k3 : 0 ≤ left := by omega
        have k4 : left ≤ 1000000 := by omega
        have HV : Aside0 (goB n lies s left = true) := ⟨by unfold goB; rw [h1, h2, h3, h4]; rfl⟩
        have H1 := Aside0.mk h1
        clear h1
        have H2 := Aside0.mk h2
        clear h2
        have H3 := Aside0.mk h3
        clear h3
        have H4 := Aside0.mk h4
        clear h4
        go_enter Try.func111, Try.ntmps111
        go_wp2_with (first | (go_at_call 130; rw [← HW.out]; refine (good_any n ((A0, c0), (A1, c1)) _ (HR.out.below fb.out) HF.out).mono ?_; rintro e w3 ⟨rfl, hb3⟩; rw [H1.out]; have B3 := Aside0.mk hb3; have D3 := Aside0.mk (below_more fb.out hb3); clear hb3; have n0 := (HN.out.below B3.out).c 0 _ rfl; have n1 := (HN.out.below B3.out).c 1 _ rfl; have m0 := (HS.out.below B3.out).c 0 _ rfl; have m1 := (HS.out.below B3.out).c 1 _ rfl; have m2 := (HS.out.below B3.out).c 2 _ rfl) | (go_at_call 169; refine (liesOk_any n ((A0, c0), (A1, c1)) (A2, c2) lies _ (HR.out.below D3.out) (Kd.C_below HL.out D3.out)).mono ?_; rintro e w4 ⟨rfl, hb4⟩; rw [H2.out]; have B4 := Aside0.mk (below_more B3.out hb4); have D4 := Aside0.mk (below_more D3.out hb4); clear hb4; have n0 := (HN.out.below B4.out).c 0 _ rfl; have n1 := (HN.out.below B4.out).c 1 _ rfl; have m0 := (HS.out.below B4.out).c 0 _ rfl; have m1 := (HS.out.below B4.out).c 1 _ rfl; have m2 := (HS.out.below B4.out).c 2 _ rfl) | (go_at_call 131; refine (spotOk_any n ((A0, c0), (A1, c1)) s _ (HR.out.below D4.out)).mono ?_; rintro e w5 ⟨rfl, hb5⟩; rw [H3.out]; have D5 := Aside0.mk (below_more D4.out hb5); clear hb5))
        go_ret
        exact ⟨by rw [HV.out]; first | rfl | (rw [K5.out]; rfl), D5.out⟩
end Go.Proofs.Ytckcffjnffcjcaa
namespace Go.Proofs.Ytckcffjnffcjcaa
open Go.RowKit Go.Proofs.YtckcffjnffcjcaaW.PrintWords
theorem box3 (w : World) (a b c : List Value) (s t r : TypeId) : ∃ W0, W0 = ((w.alloc (.cells a.toArray s)).alloc (.cells b.toArray t)).alloc (.cells c.toArray r) ∧ Bx W0 w.heap.size a ∧ Bx W0 (w.heap.size + 1) b ∧ Bx W0 (w.heap.size + 1 + 1) c ∧ Below w.heap.size w W0 := by
  obtain ⟨W0, h0, hN, hS, fb, hz⟩ := box2 w a b s t
  refine ⟨_, rfl, ?_, ?_, ?_, ?_⟩
  · rw [← h0]; exact hN.alloc _
  · rw [← h0]; exact hS.alloc _
  · rw [← h0]; exact Bx.new' _ _ _ hz.symm
  · rw [← h0]; exact below_alloc fb _
end Go.Proofs.Ytckcffjnffcjcaa
