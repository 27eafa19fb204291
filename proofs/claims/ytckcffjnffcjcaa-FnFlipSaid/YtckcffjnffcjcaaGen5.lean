/- Contracts of the drawn nets, spots and lies. Conditions: each byte is one; the net is good. -/
import Derived.Test.YtckcffjnffcjcaaGen4
import Derived.Test.YtckcffjnffcjcaaNets
import Derived.Outline
set_option linter.unusedVariables false
set_option linter.unusedSimpArgs false
namespace Go.Proofs.Ytckcffjnffcjcaa
open Go.RowKit Go.Proofs.YtckcffjnffcjcaaW.PrintWords
set_option maxRecDepth 100000 in
set_option maxHeartbeats 2000000 in
theorem nets_any (code : List Int) (A : Option Addr) (c : Nat) (w : World) (hr : Kd.C (Kd.int .u8) w A code.length code) (hg : GCode code) :
    Calls Try.prog 33 #[.slice A code.length c] w
      fun e w' => ∃ u : (Option Addr × Nat) × (Option Addr × Nat), e = .returned (.agg #[.slice u.1.1 (netG code).pieces.length u.1.2, .slice u.2.1 (netG code).joints.length u.2.2]) ∧ RdNet 67 w' u (netG code) ∧ Below w.heap.size w w' := by
  obtain ⟨W2, hW2⟩ : ∃ W2, W2 = (w.alloc (.cells #[.slice none 0 0, .slice none 0 0] 35)).alloc (.cells #[.slice A code.length c, .int .i64 0, .int .u64 0] 135) := ⟨_, rfl⟩
  have hs2 : W2.heap.size = w.heap.size + 1 + 1 := by rw [hW2]; simp
  have fb : Below w.heap.size w W2 := by rw [hW2]; exact below_two _ _ _
  have HX : Aside0 (Bx W2 (w.heap.size + 1) (curV code A c 0)) := ⟨by rw [hW2]; exact Bx.new' _ [.slice A code.length c, .int .i64 0, .int .u64 0] 135 (by simp)⟩
  have HZ : Aside0 (Bx W2 w.heap.size [.slice none 0 0, .slice none 0 0]) := ⟨by rw [hW2]; exact (Bx.new w _ 35).alloc _⟩
  have HR := Aside0.mk hr
  have HB := Aside0.mk fb
  have HW := Aside0.mk hW2
  have HS := Aside0.mk hs2
  clear hr fb hW2 hs2
  go_enter Try.func33, Try.ntmps33
  go_wp2_with fail
  rw [← HW.out]
  refine (net_any code A c (w.heap.size + 1) w W2 HR.out hg HB.out (by omega) HX.out).mono ?_
  rintro e w5 ⟨pv, jv, rfl, hp, hj, hx, hk, hb⟩
  obtain ⟨pA, pc, rfl⟩ := Kd.R_slice hp
  obtain ⟨jA, jc, rfl⟩ := Kd.R_slice hj
  have Z5 := HZ.out.kept hk (by omega)
  have z0 := Z5.c 0 _ rfl; have z1 := Z5.c 1 _ rfl; have zf0 := Z5.f 0; have zf1 := Z5.f 1; have zlt := Z5.lt
  have HP := Aside0.mk hp
  have HJ := Aside0.mk hj
  have HB5 := Aside0.mk hb
  clear hp hj hx hk hb Z5
  go_wp2_with fail
  refine bodyPost_ret (v := .agg #[.slice pA (netG code).pieces.length pc, .slice jA (netG code).joints.length jc]) (by simp [results, Try.results33, go_sem, z0, z1, zf0, zf1, zlt]) rfl ⟨((pA, pc), (jA, jc)), rfl, ?_, ?_⟩
  · obtain ⟨_, h1, h2⟩ := Kd.R_reads' (R_apart (R_apart HP.out (p := ⟨w.heap.size, 0, none⟩) (by show w.heap.size < _; have := HS.out; omega) (.slice pA (netG code).pieces.length pc)) (p := ⟨w.heap.size, 1, none⟩) (by show w.heap.size < _; have := HS.out; omega) (.slice jA (netG code).joints.length jc))
    obtain ⟨_, h3, h4⟩ := Kd.R_reads' (R_apart (R_apart HJ.out (p := ⟨w.heap.size, 0, none⟩) (by show w.heap.size < _; have := HS.out; omega) (.slice pA (netG code).pieces.length pc)) (p := ⟨w.heap.size, 1, none⟩) (by show w.heap.size < _; have := HS.out; omega) (.slice jA (netG code).joints.length jc))
    exact ⟨⟨h2, h1⟩, ⟨h4, h3⟩⟩
  · exact below_set (below_set HB5.out (Nat.le_refl _)) (Nat.le_refl _)
set_option maxRecDepth 100000 in
set_option maxHeartbeats 4000000 in
theorem aspot_any (n : NetT) (u : (Option Addr × Nat) × (Option Addr × Nat)) (code : List Int) (A : Option Addr) (c : Nat) (w : World) (hr : RdNet 67 w u n) (hn : Good n) (hc : Kd.C (Kd.int .u8) w A code.length code) (hg : GCode code) :
    Calls Try.prog 34 #[.agg #[.slice u.1.1 n.pieces.length u.1.2, .slice u.2.1 n.joints.length u.2.2], .slice A code.length c] w
      fun e w' => e = .returned (.agg #[.int .i64 (spotG n code).piece, .int .i64 (spotG n code).at_, .int .i64 (spotG n code).way]) ∧ Below w.heap.size w w' := by
  obtain ⟨⟨A0, c0⟩, ⟨A1, c1⟩⟩ := u
  simp only
  obtain ⟨W2, hW2⟩ : ∃ W2, W2 = ((w.alloc (.cells #[.slice A0 n.pieces.length c0, .slice A1 n.joints.length c1] 35)).alloc (.cells #[.int .i64 0, .int .i64 0, .int .i64 0] 38)).alloc (.cells #[.slice A code.length c, .int .i64 0, .int .u64 0] 135) := ⟨_, rfl⟩
  have hs2 : W2.heap.size = w.heap.size + 1 + 1 + 1 := by rw [hW2]; simp
  have fb : Below w.heap.size w W2 := by rw [hW2]; exact below_three _ _ _ _
  have HX : Aside0 (Bx W2 (w.heap.size + 1 + 1) (curV code A c 0)) := ⟨by rw [hW2]; exact Bx.new' _ [.slice A code.length c, .int .i64 0, .int .u64 0] 135 (by simp)⟩
  have HN : Aside0 (Bx W2 w.heap.size [.slice A0 n.pieces.length c0, .slice A1 n.joints.length c1]) := ⟨by rw [hW2]; exact ((Bx.new w _ 35).alloc _).alloc _⟩
  have HZ : Aside0 (Bx W2 (w.heap.size + 1) [.int .i64 0, .int .i64 0, .int .i64 0]) := ⟨by rw [hW2]; exact (Bx.new' _ _ 38 (by simp)).alloc _⟩
  have HR := Aside0.mk hr
  have HC := Aside0.mk hc
  have HB := Aside0.mk fb
  have HW := Aside0.mk hW2
  have hp0 := hn.p0
  have hp1 := hn.p1
  have hpk := pickV_bd code (n := (n.pieces.length : Int)) (by omega) 0
  obtain ⟨p, hp⟩ := Int.eq_ofNat_of_zero_le hpk.1
  have hlt : p < n.pieces.length := by omega
  have hlen := hn.len hpk.1 hpk.2
  obtain ⟨L, hL⟩ : ∃ L, L = lenP n (pickV code (n.pieces.length : Int) 0) := ⟨_, rfl⟩
  rw [← hL] at hlen
  obtain ⟨ad0, e0, y0, y1, y2, y3⟩ := at_Piece hr.1.1 p hlt
  simp only at e0
  subst e0
  have hL2 : (n.pieces.getD p default).len = L := by rw [hL]; unfold lenP; rw [hp, Int.toNat_natCast]
  rw [hL2] at y1
  obtain ⟨K1, hK1⟩ : ∃ K, K = pickK (n.pieces.length : Int) 0 := ⟨_, rfl⟩
  have hk1 : K1 ≤ 2 := by rw [hK1]; unfold pickK; split <;> (try split) <;> omega
  have hwb := wideV_bd code (n := L + 1) (by omega) K1
  have hvb := pickV_bd code (n := 2) (by omega) (K1 + 2)
  obtain ⟨q1, hq1⟩ : ∃ q, q = wideV code (L + 1) K1 := ⟨_, rfl⟩
  obtain ⟨q2, hq2⟩ : ∃ q, q = pickV code 2 (K1 + 2) := ⟨_, rfl⟩
  have HV : Aside0 (spotG n code = ⟨(p : Int), q1, 1 - 2 * q2⟩) := ⟨by unfold spotG; rw [← hK1, ← hL, hp, hq1, hq2]⟩
  rw [← hq1] at hwb
  rw [← hq2] at hvb
  have HP := Aside0.mk hp
  have HQ1 := Aside0.mk hq1
  have HQ2 := Aside0.mk hq2
  have HK1 := Aside0.mk hK1
  have Y1 := Aside0.mk y1
  have hi0 : (0 : Int) ≤ (p : Int) := by omega
  have hi1 : (p : Int) < (n.pieces.length : Int) := by omega
  clear hr hc fb hW2 hp hL hL2 y0 y1 y2 y3 hq1 hq2 hK1 hpk hn
  go_enter Try.func34, Try.ntmps34
  go_wp2_with fail
  rw [← HW.out]
  have n0 := HN.out.c 0 _ rfl
  go_wp2_with fail
  refine (pick_any code A c (w.heap.size + 1 + 1) 0 (n.pieces.length : Int) w W2 HC.out hg HB.out (by omega) HX.out (by omega) (by omega)).mono ?_
  rintro e w3 ⟨rfl, hx1, hk2, hb1⟩
  rw [HP.out]
  rw [← HK1.out] at hx1
  have X3 := Aside0.mk hx1
  have B3 := Aside0.mk hb1
  have N3 := Aside0.mk (HN.out.kept hk2 (by omega))
  have Z3 := Aside0.mk (HZ.out.kept hk2 (by omega))
  have y3 := pw_cell_below hb1 Y1.out
  clear hx1 hk2 hb1 n0
  have n0 := N3.out.c 0 _ rfl
  go_wp2_with fail
  refine (wide_any code A c (w.heap.size + 1 + 1) K1 (L + 1) w _ HC.out hg B3.out (by omega) X3.out (by omega) (by omega) (by omega)).mono ?_
  rintro e w4 ⟨rfl, hx1, hk2, hb1⟩
  rw [← HQ1.out]
  have X4 := Aside0.mk hx1
  have B4 := Aside0.mk hb1
  have Z4 := Aside0.mk (Z3.out.kept hk2 (by omega))
  clear hx1 hk2 hb1 n0 y3
  go_wp2_with fail
  refine (pick_any code A c (w.heap.size + 1 + 1) (K1 + 2) 2 w _ HC.out hg B4.out (by omega) X4.out (by omega) (by omega)).mono ?_
  rintro e w5 ⟨rfl, hx1, hk2, hb1⟩
  rw [← HQ2.out]
  have B5 := Aside0.mk hb1
  have Z5 := Aside0.mk (Z4.out.kept hk2 (by omega))
  have z0 := Z5.out.c 0 _ rfl; have z1 := Z5.out.c 1 _ rfl; have z2 := Z5.out.c 2 _ rfl; have zf0 := Z5.out.f 0; have zf1 := Z5.out.f 1; have zf2 := Z5.out.f 2; have zlt := Z5.out.lt
  clear hx1 hk2 hb1
  go_wp2_with fail
  refine bodyPost_ret (v := .agg #[.int .i64 p, .int .i64 q1, .int .i64 (1 - 2 * q2)]) (by simp [results, Try.results34, go_sem, z0, z1, z2, zf0, zf1, zf2, zlt]) rfl ⟨by rw [HV.out], ?_⟩
  repeat (first | (with_reducible exact B5.out) | (with_reducible refine below_set ?_ (show w.heap.size ≤ w.heap.size + 1 by omega)))
def liesK : List JointT → Nat → Nat
  | [], k => k
  | j :: l, k => if j.kind = 3 then liesK l (k + 1) else liesK l k
theorem drop_getD {α : Type} [Inhabited α] (l : List α) (i : Nat) (h : i < l.length) : l.drop i = l.getD i default :: l.drop (i + 1) := by
  rw [List.drop_eq_getElem_cons h, getD_at l i h]
set_option maxRecDepth 100000 in
set_option maxHeartbeats 4000000 in
theorem lies_any (n : NetT) (u : (Option Addr × Nat) × (Option Addr × Nat)) (code : List Int) (A : Option Addr) (c : Nat) (w : World) (hr : RdNet 67 w u n) (hj : n.joints.length ≤ 120) (hc : Kd.C (Kd.int .u8) w A code.length code) (hg : GCode code) :
    Calls Try.prog 35 #[.agg #[.slice u.1.1 n.pieces.length u.1.2, .slice u.2.1 n.joints.length u.2.2], .slice A code.length c] w
      fun e w' => ∃ v, e = .returned v ∧ Kd.R (Kd.int .i64) 3 w' w.heap.size (fun _ => True) v (liesG n code) ∧ Below w.heap.size w w' := by
  obtain ⟨⟨A0, c0⟩, ⟨A1, c1⟩⟩ := u
  simp only
  obtain ⟨W2, hW2⟩ : ∃ W2, W2 = (w.alloc (.cells #[.slice A0 n.pieces.length c0, .slice A1 n.joints.length c1] 35)).alloc (.cells #[.slice A code.length c, .int .i64 0, .int .u64 0] 135) := ⟨_, rfl⟩
  have hs2 : W2.heap.size = w.heap.size + 1 + 1 := by rw [hW2]; simp
  have fb : Below w.heap.size w W2 := by rw [hW2]; exact below_two _ _ _
  have HX : Aside0 (Bx W2 (w.heap.size + 1) (curV code A c 0)) := ⟨by rw [hW2]; exact Bx.new' _ [.slice A code.length c, .int .i64 0, .int .u64 0] 135 (by simp)⟩
  have HN : Aside0 (Bx W2 w.heap.size [.slice A0 n.pieces.length c0, .slice A1 n.joints.length c1]) := ⟨by rw [hW2]; exact (Bx.new w _ 35).alloc _⟩
  have HR := Aside0.mk hr.2.1
  have HC := Aside0.mk hc
  have HB := Aside0.mk fb
  have HW := Aside0.mk hW2
  have hm := hr.2.1.2.1
  obtain ⟨B, hBB⟩ : ∃ B, B = w.heap.size + 1 + 1 := ⟨_, rfl⟩
  have HBB := Aside0.mk hBB
  have HS2 := Aside0.mk hs2
  have n1 := HN.out.c 1 _ rfl
  clear hr hc fb hW2 hs2 hBB
  go_enter Try.func35, Try.ntmps35
  go_wp2_with fail
  rw [← HW.out]
  go_wp2_with fail
  clear n1
  go_loopw [6, 16] (fun v6 v16 wr => ∃ (i k : Nat) (out : List Int) (OA : Option Addr) (oc : Nat), v16 = .int .i64 (i : Int) ∧ v6 = .slice OA out.length oc ∧ i ≤ n.joints.length ∧ out.length = i ∧ k ≤ i ∧ Aside0 (out ++ liesL code (n.joints.drop i) k = liesG n code) ∧ Aside0 (Kd.R (Kd.int .i64) 3 wr B (fun _ => True) (.slice OA out.length oc) out) ∧ Aside0 (Bx wr (w.heap.size + 1) (curV code A c k)) ∧ Aside0 (Below w.heap.size w wr) ∧ B ≤ wr.heap.size) (fun _ v16 _ => n.joints.length - (intOf v16).toNat)
  case atStart => exact ⟨0, 0, [], none, 0, rfl, rfl, Nat.zero_le _, rfl, Nat.le_refl _, ⟨rfl⟩, ⟨Kd.R_nil ..⟩, HX, HB, by rw [HS2.out, HBB.out]; exact Nat.le_refl _⟩
  case round =>
    clear HX HB HN
    obtain ⟨i, k, out, OA, oc, rfl, rfl, hi, hol, hki, HL, HO, HX, HB, hBs⟩ := hrel
    by_cases hlt : i < n.joints.length
    · obtain ⟨ad0, A2, c2, e0, y0, y1, y2, _, _⟩ := at_Joint HR.out i hlt
      subst e0
      replace y0 := pw_cell_below HB.out y0
      replace y1 := pw_cell_below HB.out y1
      replace y2 := pw_cell_below HB.out y2
      obtain ⟨J, hJ⟩ : ∃ J, J = n.joints.getD i default := ⟨_, rfl⟩
      rw [← hJ] at y0 y1 y2
      have HD := Aside0.mk (drop_getD n.joints i hlt)
      rw [← hJ] at HD
      have HOL := Aside0.mk hol
      clear hJ hol
      go_upto_if 22 with (fail)
      have hsz1 := HBB.out
      obtain ⟨W5, hW5⟩ : ∃ W5, W5 = wr.alloc (.cells #[.int .i64 J.kind, .string J.name, .slice A2 J.ends.length c2] 139) := ⟨_, rfl⟩
      have B5 : Aside0 (Below w.heap.size w W5) := ⟨by rw [hW5]; exact below_alloc HB.out _⟩
      have X5 : Aside0 (Bx W5 (w.heap.size + 1) (curV code A c k)) := ⟨by rw [hW5]; exact HX.out.alloc _⟩
      have O5 : Aside0 (Kd.R (Kd.int .i64) 3 W5 B (fun _ => True) (.slice OA out.length oc) out) := ⟨by rw [hW5]; exact Kd.R_alloc HO.out _⟩
      have hs5 : B ≤ W5.heap.size := by rw [hW5]; simp; omega
      rw [← hW5]
      clear hW5
      have hpb := pickV_bd code (n := 2) (by omega) k
      go_cut [9] (fun s9 W => ∃ (x : Int) (k' : Nat), s9 = .int .i64 x ∧ k' ≤ i + 1 ∧ Aside0 (liesL code (J :: n.joints.drop (i + 1)) k = x :: liesL code (n.joints.drop (i + 1)) k') ∧ Aside0 (Kd.R (Kd.int .i64) 3 W B (fun _ => True) (.slice OA out.length oc) out) ∧ Aside0 (Bx W (w.heap.size + 1) (curV code A c k')) ∧ Aside0 (Below w.heap.size w W) ∧ B ≤ W.heap.size)
      case first =>
        by_cases hk3 : J.kind = 3
        · have hkt : (J.kind == 3) = true := by simpa using hk3
          have HV : Aside0 (liesL code (J :: n.joints.drop (i + 1)) k = (1 + pickV code 2 k) :: liesL code (n.joints.drop (i + 1)) (k + 1)) := ⟨by simp only [liesL]; rw [if_pos hk3]⟩
          clear hk3
          obtain ⟨q, hq⟩ : ∃ q, q = pickV code 2 k := ⟨_, rfl⟩
          rw [← hq] at hpb HV
          have HQ := Aside0.mk hq
          clear hq
          go_wp2_with fail
          refine (pick_any code A c (w.heap.size + 1) k 2 w _ HC.out hg B5.out (by omega) X5.out (by omega) (by omega)).mono ?_
          rintro e w6 ⟨rfl, hx1, hk2, hb1⟩
          rw [← HQ.out]
          rw [pickK_1 (by omega) (by omega)] at hx1
          have X6 := Aside0.mk hx1
          have B6 := Aside0.mk hb1
          have O6 := Aside0.mk (R_keptL O5.out hk2 (by omega))
          have hs6 : B ≤ w6.heap.size := Nat.le_trans hs5 hk2.1
          clear hx1 hk2 hb1
          go_wp2_with fail
          go_meet
          case rel => exact ⟨1 + q, k + 1, rfl, by omega, HV, O6, X6, B6, hs6⟩
        · have hkt : (J.kind == 3) = false := by simpa using hk3
          have HV : Aside0 (liesL code (J :: n.joints.drop (i + 1)) k = 0 :: liesL code (n.joints.drop (i + 1)) k) := ⟨by simp only [liesL]; rw [if_neg hk3]⟩
          clear hk3
          go_wp2_with fail
          go_meet
          case rel => exact ⟨0, k, rfl, by omega, HV, O5, X5, B5, hs5⟩
      case rest =>
      clear B5 X5 O5 hs5 y0 y1 y2
      obtain ⟨x, k', rfl, hk', HV, O6, X6, B6, hs6⟩ := hcut
      have hol2 := HOL.out
      have hlen : (out.length + 1) * 8 ≤ 140737488355328 := by omega
      clear hol2
      have hsz2 : w.heap.size + 1 < B := by omega
      go_wp2_with ((with_reducible refine gate_callG (b := .append) (xs := #[.tmp 26, .tmp 28]) rfl ?_); at_builtin; refine Kd.R_append (Kd.int .i64) (w0 := wc) B rfl (.tmp 26) (.tmp 28) 40 3 (.int .i64 0) 8 rfl Try.underlying40 info3 rfl (by decide) (by omega) (.slice OA out.length oc) out x [.int .i64 x] (fun _ => True) (fun _ => False) rfl (by first | (go_simp; done) | (go_simp; rfl)) rfl (fun _ hk => hk.elim) (fun _ _ => trivial) O6.out (Below.refl _ _) hs6 hlen ?_; intro v1 w9 hR9 hB9 hG9 hat9; obtain ⟨oA, oc1, rfl⟩ := Kd.R_slice hR9; have hR9' := Aside0.mk hR9; have hB9' := Aside0.mk hB9; have hG9' := Aside0.mk hG9; have X9 := Aside0.mk (X6.out.grownB hG9 (fun he => by have := Kd.R_base O6.out _ he.symm; omega)); clear hR9 hB9 hG9 hat9)
      go_roundw
      case rel =>
        have hol3 := HOL.out
        refine ⟨i + 1, k', out ++ [x], oA, oc1, by go_num, ?_, by omega, by simp [hol3], hk', ⟨?_⟩, ⟨hR9'.out⟩, X9, ⟨below_lo B6.out hB9'.out (by omega)⟩, Nat.le_trans hs6 hG9'.out.size⟩
        · first | rfl | simp
        · rw [← HL.out, HD.out, HV.out, List.append_assoc]; rfl
      case measure => simp [intOf]; omega
    · have hie : i = n.joints.length := by omega
      have HR2 : Aside0 (out = liesG n code) := ⟨by rw [← HL.out, List.drop_of_length_le (by omega)]; simp [liesL]⟩
      clear hie
      go_wp2_with fail
      go_ret
      refine ⟨_, rfl, ?_, HB.out⟩
      rw [← HR2.out]
      exact Kd.R_lower HO.out (by have := HBB.out; omega)
end Go.Proofs.Ytckcffjnffcjcaa
