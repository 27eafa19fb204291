/- Texts of this work, of each what the claim leans on: Dr7, Dr9, Maps2. No conditions. -/
import Derived.Test.YtckcffjnffcjcaaVSh6
import Derived.Maps.RangeRun
import Derived.Maps.RangeWalk
set_option linter.unusedVariables false
set_option linter.unusedSimpArgs false
namespace Go.Proofs.Ytckcffjnffcjcaa
open Go.RowKit Go.Proofs.YtckcffjnffcjcaaW.PrintWords
theorem cell_far {W : World} {a : Addr} {v : Value} (h : W.cell? a = some v) {g i : Nat} {u : Value} (hne : a.block ≠ g) : (W.setCell ⟨g, i, none⟩ u).cell? a = some v := by
  rw [World.cell?_setCell_other W _ _ _ (by intro h2; exact hne (by rw [← h2]))]
  exact h
section
theorem min2_int' (k k' : IntKind) (x y : Int) : Builtin.min2 (.int k x) (.int k' y) = pure (.int k (if y < x then y else x)) := by simp only [Builtin.min2]
theorem max2_int' (k k' : IntKind) (x y : Int) : Builtin.max2 (.int k x) (.int k' y) = pure (.int k (if x < y then y else x)) := by simp only [Builtin.max2, gt_iff_lt]
theorem max_two' (ats : Array TypeId) (ty : TypeId) (a b : Value) : Builtin.max_ ats ty #[a, b] = (Builtin.max2 a b >>= fun s => pure s) := by simp only [Builtin.max_, List.foldlM_cons, List.foldlM_nil]
theorem min_two' (ats : Array TypeId) (ty : TypeId) (a b : Value) : Builtin.min_ ats ty #[a, b] = (Builtin.min2 a b >>= fun s => pure s) := by simp only [Builtin.min_, List.foldlM_cons, List.foldlM_nil]
attribute [local go_sem] max2_int' min2_int' max_two' min_two'
set_option maxRecDepth 100000 in
set_option maxHeartbeats 16000000 in
theorem driveNone_any (n : NetT) (u : (Option Addr × Nat) × (Option Addr × Nat)) (v : Option Addr × Nat) (lies : List Int) (s : SpotT) (left : Int) (w00 w : World) (hr : RdNet 67 w00 u n) (hl : Kd.C (Kd.int .i64) w00 v.1 lies.length lies) (hb : Below w00.heap.size w00 w) (hg : Good n) (hlb : liesB n lies = true) (hs : spotB n s = true) (h0 : 0 ≤ left) (h1 : left ≤ 1000000) :
    Calls Try.prog 112 #[.agg #[.slice u.1.1 n.pieces.length u.1.2, .slice u.2.1 n.joints.length u.2.2], .slice v.1 lies.length v.2, .agg #[.int .i64 s.piece, .int .i64 s.at_, .int .i64 s.way], .int .i64 left, .func (.func 113) #[] #[]] w
      fun e w' => e = .returned (drvV (drv n lies 1000 s left)) ∧ Below w00.heap.size w00 w' := by
  have HR := Aside0.mk hr
  have HL := Aside0.mk hl
  have HG := Aside0.mk hg
  have HLB := Aside0.mk hlb
  have HI := Aside0.mk (DJ.start (n := n) (lies := lies) hs h0)
  have HSZ00 := Aside0.mk hb.size
  have hjm := hr.2.1.2.1
  have hlm := hl.2.1
  clear hr hl hlb hs h0 hg
  obtain ⟨⟨A0, c0⟩, ⟨A1, c1⟩⟩ := u
  obtain ⟨A2, c2⟩ := v
  simp only at HL ⊢
  obtain ⟨W0, hW0, hN, hS, hZ, hD, fb0, hsz0⟩ := box4 w [.slice A0 n.pieces.length c0, .slice A1 n.joints.length c1] [.int .i64 s.piece, .int .i64 s.at_, .int .i64 s.way] [.int .i64 0, .int .i64 0, .int .i64 0, .int .i64 0, .int .i64 0, .int .i64 0] [.int .i64 0, .int .i64 0, .int .i64 (-1), .int .i64 s.piece, .int .i64 s.at_, .int .i64 s.way] 35 38 44 44
  have fb := Aside0.mk (below_lower hb fb0 hb.size)
  have HN := Aside0.mk hN
  have HZ := Aside0.mk hZ
  have HD := Aside0.mk hD
  have HW := Aside0.mk hW0
  clear hW0 fb0 hN hS hZ hD hsz0 hb
  obtain ⟨base, hbase⟩ : ∃ b, b = w.heap.size + 1 + 1 + 1 + 1 := ⟨_, rfl⟩
  have HBS := Aside0.mk hbase
  clear hbase
  have hmf : ∀ (fn : Fn) (first cap : Array Value) (w : World), (Instr.makeFunc fn first cap).run Try.prog w = .ok (.func fn first cap) w := fun _ _ _ _ => rfl
  go_enter Try.func112, Try.ntmps112
  go_wp2
  rw [← HW.out]
  go_loopw [3, 12] (fun v3 v12 wr => ∃ (r : Nat) (far D : Int) (t : SpotT) (ps : List PartT), v3 = .int .i64 D ∧ v12 = .int .i64 r ∧ r ≤ 1000 ∧ Aside0 (D = left - far) ∧ Aside0 (DJ n lies s left r far t ps) ∧ Aside0 (Below w00.heap.size w00 wr) ∧ Aside0 (Bx wr w.heap.size [.slice A0 n.pieces.length c0, .slice A1 n.joints.length c1]) ∧ Aside0 (Bx wr (w.heap.size + 1 + 1) [.int .i64 0, .int .i64 0, .int .i64 0, .int .i64 0, .int .i64 0, .int .i64 0]) ∧ Aside0 (Bx wr (w.heap.size + 1 + 1 + 1) [.int .i64 0, .int .i64 far, .int .i64 (-1), .int .i64 t.piece, .int .i64 t.at_, .int .i64 t.way])) (fun _ v12 _ => 2000 - (intOf v12).toNat)
  case atStart => exact ⟨0, 0, left, s, [], rfl, rfl, by omega, ⟨by omega⟩, HI, fb, HN, HZ, HD⟩
  case round =>
    clear HI HN HZ HD
    obtain ⟨r, far, D, t, ps, rfl, rfl, hr1, HDD, HI, HB, HN, HZ, HD⟩ := hrel
    have hsp := HI.out.spot
    have HSP := Aside0.mk hsp
    have hf0 := HI.out.f0
    have hf1 := HI.out.f1
    obtain ⟨hL0, hLR, hLD, hlen⟩ := HI.out.leg HG.out
    rw [← HDD.out] at hL0 hLR hLD hlen
    obtain ⟨hp0, hp1, hw, ha0, ha1⟩ := spotB_iff.1 hsp
    have hrb := roomS_bd HG.out hsp
    have hln := (HG.out.len hp0 hp1).2
    have HP0 := Aside0.mk hp0
    have HP1 := Aside0.mk hp1
    have HA0 := Aside0.mk ha0
    have HA1 := Aside0.mk ha1
    have HLE := Aside0.mk hln
    have hen := headE_ok hsp
    obtain ⟨i, q, hat⟩ := HG.out.at_ hen
    obtain ⟨L, hL⟩ : ∃ L, L = legOf n t D := ⟨_, rfl⟩
    have HLG := Aside0.mk hL
    have hD2 : D ≤ 1000000 ∧ 0 ≤ D := by have := HDD.out; omega
    obtain ⟨R, hR⟩ : ∃ R, R = roomS n t := ⟨_, rfl⟩
    have HRO := Aside0.mk hR
    have HMIN := Aside0.mk (show L = min R D by rw [hL, hR]; rfl)
    rw [← hL] at hL0 hLR hLD hlen
    rw [← hR] at hLR hrb
    have HLEN := Aside0.mk hlen
    clear hL hR hlen hsp hp0 hp1 hln
    obtain ⟨⟨hp, hs⟩, hH⟩ : ∃ z, z = headE t := ⟨_, rfl⟩
    rw [← hH] at hat hen
    have HH := Aside0.mk hH
    have HAT := Aside0.mk hat
    have HEN := Aside0.mk hen
    clear hH hat hen
    have HMV : Aside0 (moveS t L = ⟨t.piece, t.at_ + L * t.way, t.way⟩) := ⟨rfl⟩
    have HPT := Aside0.mk (show ∀ h : 0 < L, partsOf t L = [partOf t L] from fun h => if_pos h)
    have HPN := Aside0.mk (show ∀ h : ¬ 0 < L, partsOf t L = [] from fun h => if_neg h)
    obtain ⟨tp, ta, tw⟩ := t
    simp only at HD HMV ha0 ha1 hw
    have hta : ta ≤ 10000000 := by have q1 : lenP n tp ≤ 10000000 := HLE.out; have q2 : ta ≤ lenP n tp := HA1.out; omega
    have hmb : -10000000 ≤ L * tw ∧ L * tw ≤ 10000000 := by rcases hw with rfl | rfl <;> omega
    obtain ⟨M, hM⟩ : ∃ M, M = L * tw := ⟨_, rfl⟩
    have HM := Aside0.mk hM
    rw [← hM] at hmb HMV
    have hwM : IntKind.i64.wrap (L * tw) = M := by rw [← hM]; exact wrap64 (by omega) (by omega)
    obtain ⟨B, hB⟩ : ∃ B, B = ta + M := ⟨_, rfl⟩
    have hwB : IntKind.i64.wrap (ta + M) = B := by rw [← hB]; exact wrap64 (by omega) (by omega)
    rw [← hB] at HMV
    obtain ⟨F, hF⟩ : ∃ F, F = far + L := ⟨_, rfl⟩
    have hwF : IntKind.i64.wrap (far + L) = F := by rw [← hF]; exact wrap64 (by have := HDD.out; omega) (by have := HDD.out; omega)
    obtain ⟨E, hE⟩ : ∃ E, E = D - L := ⟨_, rfl⟩
    have hwE : IntKind.i64.wrap (D - L) = E := by rw [← hE]; exact wrap64 (by omega) (by omega)
    have HB0 := Aside0.mk hB
    have HF := Aside0.mk hF
    have HE := Aside0.mk hE
    have HW1 := Aside0.mk hw
    have HMB := Aside0.mk (show M = L * tw ∧ B = ta + M ∧ 0 ≤ L from ⟨hM, hB, hL0⟩)
    clear hM hB hF hE hmb hw ha0 ha1 hta hrb hLR hLD hf0 hf1 hD2 hL0 h1
    have n0 := HN.out.c 0 _ rfl; have n1 := HN.out.c 1 _ rfl; have d0 := HD.out.c 0 _ rfl; have d1 := HD.out.c 1 _ rfl; have d2 := HD.out.c 2 _ rfl; have d3 := HD.out.c 3 _ rfl; have d4 := HD.out.c 4 _ rfl; have d5 := HD.out.c 5 _ rfl
    go_upto_region 4 with (go_at_call 156; refine (room_any n ((A0, c0), (A1, c1)) ⟨tp, ta, tw⟩ _ (HR.out.below HB.out) HP0.out HP1.out HA0.out HA1.out HLE.out).mono ?_; rintro e w3 ⟨rfl, hb3⟩; rw [← HRO.out, ← HH.out]; have B3 := Aside0.mk (below_lower HB.out hb3 (HB.out.size)); have N3 := Aside0.mk (HN.out.below hb3); have Z3 := Aside0.mk (HZ.out.below hb3); have D3 := Aside0.mk (HD.out.below hb3); clear hb3 n0 n1 d0 d1 d2 d3 d4 d5)
    obtain ⟨W4, hW4⟩ : ∃ W4, W4 = w3.alloc (.cells #[.int .i64 hp, .int .i64 hs] 67) := ⟨_, rfl⟩
    obtain ⟨b14, hb14⟩ : ∃ b, b = w3.heap.size := ⟨_, rfl⟩
    have B4 : Aside0 (Below w00.heap.size w00 W4) := ⟨by rw [hW4]; exact below_lower B3.out (below_alloc (Below.refl _ _) _) B3.out.size⟩
    have N4 : Aside0 (Bx W4 w.heap.size [.slice A0 n.pieces.length c0, .slice A1 n.joints.length c1]) := ⟨by rw [hW4]; exact N3.out.alloc _⟩
    have Z4 : Aside0 (Bx W4 (w.heap.size + 1 + 1) [.int .i64 0, .int .i64 0, .int .i64 0, .int .i64 0, .int .i64 0, .int .i64 0]) := ⟨by rw [hW4]; exact Z3.out.alloc _⟩
    have D4 : Aside0 (Bx W4 (w.heap.size + 1 + 1 + 1) [.int .i64 0, .int .i64 far, .int .i64 (-1), .int .i64 tp, .int .i64 ta, .int .i64 tw]) := ⟨by rw [hW4]; exact D3.out.alloc _⟩
    have T4 : Aside0 (Bx W4 b14 [.int .i64 hp, .int .i64 hs]) := ⟨by rw [hW4, hb14]; exact Bx.new w3 _ 67⟩
    have HB14 : Aside0 (w.heap.size + 1 + 1 + 1 < b14) := ⟨by rw [hb14]; exact D3.out.lt⟩
    rw [← hW4]
    try rw [← hb14]
    clear hW4 hb14
    go_cut [13] (fun s13 W5 => s13 = .int .i64 L ∧ W5 = W4)
    case first =>
      by_cases hRD : D < R
      · have hLL : L = D := by have := HMIN.out; omega
        subst hLL
        go_wp2_with fail
        go_meet
        case rel => exact ⟨rfl, rfl⟩
      · have hLL : L = R := by have := HMIN.out; omega
        subst hLL
        go_wp2_with fail
        go_meet
        case rel => exact ⟨rfl, rfl⟩
    case rest =>
    obtain ⟨rfl, rfl⟩ := hcut
    obtain ⟨ps', hps'⟩ : ∃ q, q = ps ++ partsOf ⟨tp, ta, tw⟩ L := ⟨_, rfl⟩
    have HPS := Aside0.mk hps'
    have HPL := HLEN.out
    rw [← hps'] at HPL
    have HPL2 := Aside0.mk HPL
    clear hps' HPL
    have d0 := D4.out.c 0 _ rfl; have d1 := D4.out.c 1 _ rfl; have d2 := D4.out.c 2 _ rfl; have d3 := D4.out.c 3 _ rfl; have d4 := D4.out.c 4 _ rfl; have d5 := D4.out.c 5 _ rfl; have df0 := D4.out.f 0; have df1 := D4.out.f 1; have df2 := D4.out.f 2; have df3 := D4.out.f 3; have df4 := D4.out.f 4; have df5 := D4.out.f 5
    go_upto_if 57 with fail
    clear d0 d1 d2 d3 d4 d5 df0 df1 df2 df3 df4 df5
    obtain ⟨W5, hW5⟩ : ∃ W5, W5 = (wc.setCell ⟨w.heap.size + 1 + 1 + 1, 4, none⟩ (.int .i64 B)).setCell ⟨w.heap.size + 1 + 1 + 1, 1, none⟩ (.int .i64 F) := ⟨_, rfl⟩
    have hz00 := HSZ00.out
    have hb14 := HB14.out
    have hbb := HBS.out
    have B5 : Aside0 (Below w00.heap.size w00 W5) := ⟨by rw [hW5]; exact below_set (below_set B4.out (by omega)) (by omega)⟩
    have N5 : Aside0 (Bx W5 w.heap.size [.slice A0 n.pieces.length c0, .slice A1 n.joints.length c1]) := ⟨by rw [hW5]; exact (N4.out.far (by omega) _).far (by omega) _⟩
    have Z5 : Aside0 (Bx W5 (w.heap.size + 1 + 1) [.int .i64 0, .int .i64 0, .int .i64 0, .int .i64 0, .int .i64 0, .int .i64 0]) := ⟨by rw [hW5]; exact (Z4.out.far (by omega) _).far (by omega) _⟩
    have D5 : Aside0 (Bx W5 (w.heap.size + 1 + 1 + 1) [.int .i64 0, .int .i64 F, .int .i64 (-1), .int .i64 tp, .int .i64 B, .int .i64 tw]) := ⟨by rw [hW5]; exact (D4.out.set (i := 4) (by simp) _).set (i := 1) (by simp) _⟩
    have T5 : Aside0 (Bx W5 b14 [.int .i64 hp, .int .i64 hs]) := ⟨by rw [hW5]; exact (T4.out.far (by omega) _).far (by omega) _⟩
    rw [← hW5]
    clear hW5 hz00 hb14 hbb
    go_cut [13] (fun s13 W6 => s13 = .int .i64 L ∧ Aside0 (Below w00.heap.size w00 W6) ∧ Aside0 (Bx W6 w.heap.size [.slice A0 n.pieces.length c0, .slice A1 n.joints.length c1]) ∧ Aside0 (Bx W6 (w.heap.size + 1 + 1) [.int .i64 0, .int .i64 0, .int .i64 0, .int .i64 0, .int .i64 0, .int .i64 0]) ∧ Aside0 (Bx W6 (w.heap.size + 1 + 1 + 1) [.int .i64 0, .int .i64 F, .int .i64 (-1), .int .i64 tp, .int .i64 B, .int .i64 tw]) ∧ Aside0 (Bx W6 b14 [.int .i64 hp, .int .i64 hs]))
    case first =>
      by_cases hL : 0 < L
      · have hw := HW1.out
        have hmb := HMB.out
        have d0 := D5.out.c 0 _ rfl; have d1 := D5.out.c 1 _ rfl; have d2 := D5.out.c 2 _ rfl; have d3 := D5.out.c 3 _ rfl; have d4 := D5.out.c 4 _ rfl; have d5 := D5.out.c 5 _ rfl
        rcases hw with rfl | rfl
        ·
          have hc1 : ¬ B < ta := by omega
          have hc2 : ta < B := by omega
          have HPX : Aside0 (ps' = ps ++ [⟨tp, ta, B⟩]) := ⟨by rw [HPS.out, HPT.out hL]; unfold partOf; simp only [List.append_cancel_left_eq, List.cons.injEq, PartT.mk.injEq, true_and, and_true]; omega⟩
          clear hmb
          go_wp2_with (go_at_call 113; refine (sinkNone_any ⟨tp, ta, B⟩ _).mono ?_; rintro e w6 ⟨rfl, hb6⟩; have B6 := Aside0.mk (below_lower B5.out hb6 B5.out.size); have N6 := Aside0.mk (N5.out.below hb6); have Z6 := Aside0.mk (Z5.out.below hb6); have D6 := Aside0.mk (D5.out.below hb6); have T6 := Aside0.mk (T5.out.below hb6); clear hb6)
          go_meet
          case rel => exact ⟨rfl, B6, N6, Z6, D6, T6⟩
        ·
          have hc1 : B < ta := by omega
          have hc2 : ¬ ta < B := by omega
          have HPX : Aside0 (ps' = ps ++ [⟨tp, B, ta⟩]) := ⟨by rw [HPS.out, HPT.out hL]; unfold partOf; simp only [List.append_cancel_left_eq, List.cons.injEq, PartT.mk.injEq, true_and, and_true]; omega⟩
          clear hmb
          go_wp2_with (go_at_call 113; refine (sinkNone_any ⟨tp, B, ta⟩ _).mono ?_; rintro e w6 ⟨rfl, hb6⟩; have B6 := Aside0.mk (below_lower B5.out hb6 B5.out.size); have N6 := Aside0.mk (N5.out.below hb6); have Z6 := Aside0.mk (Z5.out.below hb6); have D6 := Aside0.mk (D5.out.below hb6); have T6 := Aside0.mk (T5.out.below hb6); clear hb6)
          go_meet
          case rel => exact ⟨rfl, B6, N6, Z6, D6, T6⟩
      · have HPN2 : Aside0 (ps' = ps) := ⟨by rw [HPS.out, HPN.out (by omega), List.append_nil]⟩
        go_wp2_with fail
        go_meet
        case rel => exact ⟨rfl, B5, N5, Z5, D5, T5⟩
    case rest =>
    obtain ⟨rfl, B6, N6, Z6, D6, T6⟩ := hcut
    have q0 := D6.out.c 0 _ rfl; have q1 := D6.out.c 1 _ rfl; have q2 := D6.out.c 2 _ rfl; have q3 := D6.out.c 3 _ rfl; have q4 := D6.out.c 4 _ rfl; have q5 := D6.out.c 5 _ rfl
    by_cases hE0 : E = 0
    · have HV := Aside0.mk (HI.out.done (by rw [← HDD.out, ← HLG.out]; have := HE.out; omega))
      rw [← HDD.out, ← HLG.out, HMV.out, ← HPS.out, ← HF.out] at HV
      subst hE0
      have z0 := Z6.out.c 0 _ rfl; have z1 := Z6.out.c 1 _ rfl; have z2 := Z6.out.c 2 _ rfl; have z3 := Z6.out.c 3 _ rfl; have z4 := Z6.out.c 4 _ rfl; have z5 := Z6.out.c 5 _ rfl; have zf0 := Z6.out.f 0; have zf1 := Z6.out.f 1; have zf2 := Z6.out.f 2; have zf3 := Z6.out.f 3; have zf4 := Z6.out.f 4; have zf5 := Z6.out.f 5; have zlt := Z6.out.lt
      go_wp2
      refine bodyPost_ret (v := .agg #[.int .i64 0, .int .i64 F, .int .i64 (-1), .int .i64 tp, .int .i64 B, .int .i64 tw]) (by simp [results, Try.results112, go_sem, z0, z1, z2, z3, z4, z5, zf0, zf1, zf2, zf3, zf4, zf5, zlt]) rfl ⟨by rw [HV.out]; rfl, ?_⟩
      · have := HSZ00.out
        repeat (first | (with_reducible exact B6.out) | (with_reducible refine below_set ?_ (by omega)))
    · have hEb : (E == 0) = false := by simpa using hE0
      have hE2 : left - far - legOf n ⟨tp, ta, tw⟩ (left - far) ≠ 0 := by rw [← HDD.out, ← HLG.out]; have := HE.out; omega
      have HST := fun hc => HI.out.stop hE2 hc
      have HFU := fun hc hk => HI.out.full hE2 hc hk
      have HNX := fun hc hk => HI.out.joint HG.out HLB.out hE2 hc hk
      rw [← HDD.out, ← HLG.out, ← HH.out, HMV.out, ← HPS.out, ← HF.out, HAT.out.eq] at HST HFU
      rw [← HDD.out, ← HLG.out, ← HH.out, ← HPS.out, ← HF.out] at HNX
      simp only at HST HFU
      have HST := Aside0.mk HST
      have HFU := Aside0.mk HFU
      have HNX := Aside0.mk HNX
      obtain ⟨hk1, hk2, hk3, _⟩ := HG.out.kindAt HAT.out.hi
      have hi := HAT.out.hi
      have hq := HAT.out.hq
      have hll := liesB_iff.1 HLB.out
      obtain ⟨hy0, hy1, hy2⟩ := hll.2 i (by rw [hll.1]; exact HAT.out.hi)
      have hil : i < lies.length := by rw [hll.1]; exact HAT.out.hi
      have HAC := Aside0.mk (acrossG_at HAT.out)
      obtain ⟨adl, el, yl⟩ := at_Int HL.out i hil
      subst el
      obtain ⟨ad0, A3, k0, e0, x0, x1, x2, m0, g0⟩ := at_Joint HR.out.2.1 i hi
      simp only at e0
      subst e0
      clear x1 x2 m0 g0
      have HO : Aside0 (overL n lies ⟨hp, hs⟩ = if (n.joints.getD i default).kind = 1 then (1, ⟨hp, hs⟩)
        else if (n.joints.getD i default).kind = 3 then
          if lies.getD i 0 = 0 then (2, ⟨hp, hs⟩)
          else if q = 0 then (0, (n.joints.getD i default).ends.getD (lies.getD i 0).toNat default)
          else if (q : Int) ≠ lies.getD i 0 then (3, ⟨hp, hs⟩)
          else (0, (n.joints.getD i default).ends.getD 0 default)
        else (0, (acrossJ (n.joints.getD i default) q).getD 0 default)) := ⟨by unfold overL acrossE; rw [HAT.out.j, HAT.out.i, HAT.out.k]⟩
      obtain ⟨j, hj⟩ : ∃ j, j = n.joints.getD i default := ⟨_, rfl⟩
      rw [← hj] at x0 hk1 hk2 hk3 hq hy2 HO HAC
      obtain ⟨y, hy⟩ : ∃ y, y = lies.getD i 0 := ⟨_, rfl⟩
      rw [← hy] at yl hy0 hy1 hy2 HO
      clear hj hy hll hE2 hE0
      obtain ⟨jk, jn, je⟩ := j
      simp only at x0 hk1 hk2 hk3 hq hy2 HO
      have iz : (0 : Int) ≤ (i : Int) := by omega
      have hij : (i : Int) < (n.joints.length : Int) := by omega
      have hil' : (i : Int) < (lies.length : Int) := by omega
      have HK := Aside0.mk (show (je.length : Int) = jk ∧ jk ≤ 4 ∧ 1 ≤ jk ∧ q < je.length from by omega)
      have HY := Aside0.mk (show 0 ≤ y ∧ y ≤ 2 ∧ (y = 0 ∨ jk = 3) from by omega)
      clear hk1 hk2 hk3 hq hy0 hy1 hy2 hi hil
      clear q0 q1 q2 q3 q4 q5
      have n0 := N6.out.c 0 _ rfl; have n1 := N6.out.c 1 _ rfl; have t0 := T6.out.c 0 _ rfl; have t1 := T6.out.c 1 _ rfl
      go_upto_region 17 with (first
        | (go_at_call 134; refine (at_any n ((A0, c0), (some ad0, c1)) ⟨hp, hs⟩ _ (HR.out.below B6.out)).mono ?_; rintro e w6 ⟨rfl, hb6⟩; simp only [HAT.out.eq]; have B6' := Aside0.mk (below_lower (below_lower B6.out hb6 B6.out.size) (below_alloc (Below.refl _ _) (.cells #[.int .i64 i] 3)) (below_lower B6.out hb6 B6.out.size).size); have N6' := Aside0.mk ((N6.out.below hb6).alloc (.cells #[.int .i64 i] 3)); have Z6' := Aside0.mk ((Z6.out.below hb6).alloc (.cells #[.int .i64 i] 3)); have D6' := Aside0.mk ((D6.out.below hb6).alloc (.cells #[.int .i64 i] 3)); have T6' := Aside0.mk ((T6.out.below hb6).alloc (.cells #[.int .i64 i] 3)); have I6 := Aside0.mk (Bx.new w6 [.int .i64 i] 3); have HIB := Aside0.mk (show w6.heap.size ≠ w.heap.size + 1 + 1 + 1 from by have := (D6.out.below hb6).lt; omega); clear hb6 n0 n1 t0 t1; have n0 := N6'.out.c 0 _ rfl; have n1 := N6'.out.c 1 _ rfl; have t0 := T6'.out.c 0 _ rfl; have t1 := T6'.out.c 1 _ rfl)
        | (go_at_call 136; refine (over_any n ((A0, c0), (some ad0, c1)) ⟨hp, hs⟩ _ (HR.out.below B6'.out) HG.out).mono ?_; rintro e w7 ⟨v1, v2, rfl, hr1, hr2, hb7⟩; have HWA := Aside0.mk hr1; have HWH := Aside0.mk hr2; have B7 := Aside0.mk (below_lower B6'.out hb7 B6'.out.size); have N7 := Aside0.mk (N6'.out.below hb7); have Z7 := Aside0.mk (Z6'.out.below hb7); have D7 := Aside0.mk (D6'.out.below hb7); have I7 := Aside0.mk (I6.out.below hb7); clear hb7 n0 n1 t0 t1 hr1 hr2))
      have HB3 : Aside0 (w00.heap.size ≤ w.heap.size + 1 + 1 + 1) := ⟨by have := HSZ00.out; omega⟩
      have n0 := N7.out.c 0 _ rfl; have n1 := N7.out.c 1 _ rfl; have i0 := I7.out.c 0 _ rfl
      replace x0 := pw_cell_below B7.out x0
      replace yl := pw_cell_below B7.out yl
      have hkc : jk = 1 ∨ jk = 2 ∨ jk = 3 ∨ jk = 4 := by have := HK.out; omega
      rcases hkc with rfl | rfl | rfl | rfl
      ·
        have HOV : Aside0 (overL n lies ⟨hp, hs⟩ = (1, ⟨hp, hs⟩)) := ⟨by rw [HO.out]; rfl⟩
        have HV := Aside0.mk (HST.out (by rw [HOV.out]; show (1 : Int) ≠ 0; decide))
        rw [HOV.out] at HV
        clear HO
        go_wp2_with (go_at_call 170; refine (stop_any 1 i w6.heap.size (w.heap.size + 1 + 1 + 1) 0 (-1) F tp B tw _ I7.out D7.out HIB.out).mono ?_; rintro e w8 ⟨rfl, hk8, hb8⟩; have Z8 := Aside0.mk (Z7.out.keep hk8 (by omega)); have B8 := Aside0.mk (B7.out.trans (hb8 w00.heap.size HB3.out B7.out.size)); clear hk8 hb8; have z0 := Z8.out.c 0 _ rfl; have z1 := Z8.out.c 1 _ rfl; have z2 := Z8.out.c 2 _ rfl; have z3 := Z8.out.c 3 _ rfl; have z4 := Z8.out.c 4 _ rfl; have z5 := Z8.out.c 5 _ rfl; have zf0 := Z8.out.f 0; have zf1 := Z8.out.f 1; have zf2 := Z8.out.f 2; have zf3 := Z8.out.f 3; have zf4 := Z8.out.f 4; have zf5 := Z8.out.f 5; have zlt := Z8.out.lt)
        refine bodyPost_ret (v := .agg #[.int .i64 1, .int .i64 F, .int .i64 i, .int .i64 tp, .int .i64 B, .int .i64 tw]) (by simp [results, Try.results112, go_sem, z0, z1, z2, z3, z4, z5, zf0, zf1, zf2, zf3, zf4, zf5, zlt]) rfl ⟨by rw [HV.out]; rfl, ?_⟩
        · have := HSZ00.out
          repeat (first | (with_reducible exact B8.out) | (with_reducible refine below_set ?_ (by omega)))
      ·
        obtain ⟨p, hp'⟩ : ∃ p, p = je.getD (1 - q) default := ⟨_, rfl⟩
        have HOV : Aside0 (overL n lies ⟨hp, hs⟩ = (0, p)) := ⟨by rw [HO.out, hp']; have := HK.out; rw [if_neg (by decide), if_neg (by decide), (aJ2 rfl).1]; rfl⟩
        have HA2 := Aside0.mk (show acrossG n ⟨hp, hs⟩ = [p] ∧ howG n ⟨hp, hs⟩ = [0] from by rw [HAC.out.1, HAC.out.2, hp']; exact aJ2 rfl)
        have hr1 := HWA.out
        have hr2 := HWH.out
        rw [HA2.out.1] at hr1
        obtain ⟨A4, c4, e4, hc4, hC4⟩ := Kd.R_reads hr1
        replace hc4 : 1 ≤ c4 := hc4
        replace e4 : v1 = .slice A4 1 c4 := e4
        subst e4
        obtain ⟨ad4, rfl⟩ := C_some hC4 (by simp)
        have HAD : Aside0 (ad4.block ≠ w.heap.size + 1 + 1 + 1) := ⟨by have h1 := Kd.R_base hr1 ad4.block rfl; have h2 := D6'.out.lt; omega⟩
        obtain ⟨y0, y1⟩ := end0 hC4 rfl (by simp)
        replace y0 : w7.cell? ad4 = some (.int .i64 p.piece) := y0
        replace y1 : w7.cell? ⟨ad4.block, ad4.off + 1, none⟩ = some (.int .i64 p.side) := y1
        clear hr1 hr2 hC4 HO hp'
        by_cases hrk : r = 1000
        ·
          have HV := Aside0.mk (HFU.out (by rw [HOV.out]) hrk)
          subst hrk
          go_wp2_with (go_at_call 170; refine (stop_any 5 i w6.heap.size (w.heap.size + 1 + 1 + 1) 0 (-1) F tp B tw _ I7.out D7.out HIB.out).mono ?_; rintro e w8 ⟨rfl, hk8, hb8⟩; have Z8 := Aside0.mk (Z7.out.keep hk8 (by omega)); have B8 := Aside0.mk (B7.out.trans (hb8 w00.heap.size HB3.out B7.out.size)); clear hk8 hb8; have z0 := Z8.out.c 0 _ rfl; have z1 := Z8.out.c 1 _ rfl; have z2 := Z8.out.c 2 _ rfl; have z3 := Z8.out.c 3 _ rfl; have z4 := Z8.out.c 4 _ rfl; have z5 := Z8.out.c 5 _ rfl; have zf0 := Z8.out.f 0; have zf1 := Z8.out.f 1; have zf2 := Z8.out.f 2; have zf3 := Z8.out.f 3; have zf4 := Z8.out.f 4; have zf5 := Z8.out.f 5; have zlt := Z8.out.lt)
          refine bodyPost_ret (v := .agg #[.int .i64 5, .int .i64 F, .int .i64 i, .int .i64 tp, .int .i64 B, .int .i64 tw]) (by simp [results, Try.results112, go_sem, z0, z1, z2, z3, z4, z5, zf0, zf1, zf2, zf3, zf4, zf5, zlt]) rfl ⟨by rw [HV.out]; rfl, ?_⟩
          · have := HSZ00.out
            repeat (first | (with_reducible exact B8.out) | (with_reducible refine below_set ?_ (by omega)))
        ·
          have hrb : ((r : Int) == 1000) = false := by simp; omega
          have hr2 : r < 1000 := by omega
          obtain ⟨⟨ep, ea, ew⟩, hEn⟩ : ∃ z, z = enterS n p := ⟨_, rfl⟩
          have HENT := Aside0.mk hEn
          have HDJ := Aside0.mk (HNX.out (by rw [HOV.out]) hrk)
          rw [HOV.out] at HDJ
          have hsb := spotB_iff.1 (HDJ.out.spot)
          simp only at hsb
          rw [enterS_piece n p] at hsb
          have HO0 : Aside0 ((0 : Int) ≤ p.piece) := ⟨hsb.1⟩
          have HO1 : Aside0 (p.piece < (n.pieces.length : Int)) := ⟨hsb.2.1⟩
          clear hEn hrk hsb
          go_upto_region 30 with fail
          have HS9 : Aside0 (∀ W, Below w7.heap.size w7 W → (Below w00.heap.size w00 W ∧ W.cell? ⟨w.heap.size, 0, none⟩ = some (.slice A0 n.pieces.length c0) ∧ W.cell? ⟨w.heap.size, 1, none⟩ = some (.slice (some ad0) n.joints.length c1) ∧ W.cell? ad4 = some (.int .i64 p.piece) ∧ W.cell? ⟨ad4.block, ad4.off + 1, none⟩ = some (.int .i64 p.side))) :=
            ⟨fun W hb => ⟨below_lower B7.out hb B7.out.size, (N7.out.below hb).c 0 _ rfl, (N7.out.below hb).c 1 _ rfl, pw_cell_below hb y0, pw_cell_below hb y1⟩⟩
          have HT9 : Aside0 (∀ W, Below w7.heap.size w7 W → ∀ u0 u1 u2, (Below w00.heap.size w00 (((W.setCell ⟨w.heap.size + 1 + 1 + 1, 3, none⟩ u0).setCell ⟨w.heap.size + 1 + 1 + 1, 4, none⟩ u1).setCell ⟨w.heap.size + 1 + 1 + 1, 5, none⟩ u2) ∧ (((W.setCell ⟨w.heap.size + 1 + 1 + 1, 3, none⟩ u0).setCell ⟨w.heap.size + 1 + 1 + 1, 4, none⟩ u1).setCell ⟨w.heap.size + 1 + 1 + 1, 5, none⟩ u2).cell? ⟨w.heap.size, 0, none⟩ = some (.slice A0 n.pieces.length c0) ∧ (((W.setCell ⟨w.heap.size + 1 + 1 + 1, 3, none⟩ u0).setCell ⟨w.heap.size + 1 + 1 + 1, 4, none⟩ u1).setCell ⟨w.heap.size + 1 + 1 + 1, 5, none⟩ u2).cell? ⟨w.heap.size, 1, none⟩ = some (.slice (some ad0) n.joints.length c1) ∧ (((W.setCell ⟨w.heap.size + 1 + 1 + 1, 3, none⟩ u0).setCell ⟨w.heap.size + 1 + 1 + 1, 4, none⟩ u1).setCell ⟨w.heap.size + 1 + 1 + 1, 5, none⟩ u2).cell? ad4 = some (.int .i64 p.piece) ∧ (((W.setCell ⟨w.heap.size + 1 + 1 + 1, 3, none⟩ u0).setCell ⟨w.heap.size + 1 + 1 + 1, 4, none⟩ u1).setCell ⟨w.heap.size + 1 + 1 + 1, 5, none⟩ u2).cell? ⟨ad4.block, ad4.off + 1, none⟩ = some (.int .i64 p.side))) :=
            ⟨fun W hb u0 u1 u2 => ⟨below_set (below_set (below_set (below_lower B7.out hb B7.out.size) HB3.out) HB3.out) HB3.out, ((((N7.out.below hb).far (by omega) _).far (by omega) _).far (by omega) _).c 0 _ rfl, ((((N7.out.below hb).far (by omega) _).far (by omega) _).far (by omega) _).c 1 _ rfl, cell_far (cell_far (cell_far (pw_cell_below hb y0) HAD.out) HAD.out) HAD.out, cell_far (cell_far (cell_far (pw_cell_below hb y1) HAD.out) HAD.out) HAD.out⟩⟩
          go_region_held3 (fun W => Below w00.heap.size w00 W ∧ W.cell? ⟨w.heap.size, 0, none⟩ = some (.slice A0 n.pieces.length c0) ∧ W.cell? ⟨w.heap.size, 1, none⟩ = some (.slice (some ad0) n.joints.length c1) ∧ W.cell? ad4 = some (.int .i64 p.piece) ∧ W.cell? ⟨ad4.block, ad4.off + 1, none⟩ = some (.int .i64 p.side))
            (first | assumption | exact HS9.out _ (by assumption) | exact HT9.out _ (by assumption) _ _ _ | exact HS9.out _ (Below.drew (Below.refl _ _)))
            (first | (go_at_call 141; go_split_ands; refine Calls.mono (enter_any n ((A0, c0), (some ad0, c1)) p _ (HR.out.below (by assumption)) HO0.out HO1.out) ?_; rintro e w9 ⟨rfl, b3⟩; rw [← HENT.out]; have q9 : Below w7.heap.size w7 w9 := below_more (below_drew (Below.refl _ _)) b3; have B9 := Aside0.mk (below_lower B7.out q9 B7.out.size); have N9 := Aside0.mk (N7.out.below q9); have Z9 := Aside0.mk (Z7.out.below q9); have D9 := Aside0.mk (D7.out.below q9); clear b3; have d0 := D9.out.c 0 _ rfl; have d1 := D9.out.c 1 _ rfl; have d2 := D9.out.c 2 _ rfl; have d3 := D9.out.c 3 _ rfl; have d4 := D9.out.c 4 _ rfl; have d5 := D9.out.c 5 _ rfl; have df0 := D9.out.f 0; have df1 := D9.out.f 1; have df2 := D9.out.f 2; have df3 := D9.out.f 3; have df4 := D9.out.f 4; have df5 := D9.out.f 5))
          all_goals
            try go_wp2_with fail
            go_roundw
            case rel => exact ⟨r + 1, F, E, ⟨ep, ea, ew⟩, ps', rfl, by go_num, by omega, ⟨by rw [HE.out, HF.out, HDD.out]; omega⟩, ⟨by rw [HENT.out]; exact HDJ.out⟩, ⟨by have := HB3.out; repeat (first | (with_reducible exact B9.out) | (with_reducible refine below_set ?_ (by omega)))⟩, ⟨by repeat (first | (with_reducible exact N9.out) | (with_reducible refine Bx.far ?_ (by omega) _))⟩, ⟨by repeat (first | (with_reducible exact Z9.out) | (with_reducible refine Bx.far ?_ (by omega) _))⟩, ⟨(((D9.out.set (i := 3) (by simp) _).set (i := 4) (by simp) _).set (i := 5) (by simp) _)⟩⟩
            case measure => simp only [intOf]; omega
      ·
        have hqc : q = 0 ∨ q = 1 ∨ q = 2 := by have := HK.out; omega
        have hyc : y = 0 ∨ y = 1 ∨ y = 2 := by have := HY.out; omega
        rcases hyc with rfl | rfl | rfl
        ·
          clear hqc
          have HOV : Aside0 (overL n lies ⟨hp, hs⟩ = (2, ⟨hp, hs⟩)) := ⟨by rw [HO.out]; rfl⟩
          have HV := Aside0.mk (HST.out (by rw [HOV.out]; show (2 : Int) ≠ 0; decide))
          rw [HOV.out] at HV
          clear HO
          go_wp2_with (go_at_call 170; refine (stop_any 2 i w6.heap.size (w.heap.size + 1 + 1 + 1) 0 (-1) F tp B tw _ I7.out D7.out HIB.out).mono ?_; rintro e w8 ⟨rfl, hk8, hb8⟩; have Z8 := Aside0.mk (Z7.out.keep hk8 (by omega)); have B8 := Aside0.mk (B7.out.trans (hb8 w00.heap.size HB3.out B7.out.size)); clear hk8 hb8; have z0 := Z8.out.c 0 _ rfl; have z1 := Z8.out.c 1 _ rfl; have z2 := Z8.out.c 2 _ rfl; have z3 := Z8.out.c 3 _ rfl; have z4 := Z8.out.c 4 _ rfl; have z5 := Z8.out.c 5 _ rfl; have zf0 := Z8.out.f 0; have zf1 := Z8.out.f 1; have zf2 := Z8.out.f 2; have zf3 := Z8.out.f 3; have zf4 := Z8.out.f 4; have zf5 := Z8.out.f 5; have zlt := Z8.out.lt)
          refine bodyPost_ret (v := .agg #[.int .i64 2, .int .i64 F, .int .i64 i, .int .i64 tp, .int .i64 B, .int .i64 tw]) (by simp [results, Try.results112, go_sem, z0, z1, z2, z3, z4, z5, zf0, zf1, zf2, zf3, zf4, zf5, zlt]) rfl ⟨by rw [HV.out]; rfl, ?_⟩
          · have := HSZ00.out
            repeat (first | (with_reducible exact B8.out) | (with_reducible refine below_set ?_ (by omega)))
        ·
          rcases hqc with rfl | rfl | rfl
          ·
            obtain ⟨p, hp'⟩ : ∃ p, p = je.getD 1 default := ⟨_, rfl⟩
            have HOV : Aside0 (overL n lies ⟨hp, hs⟩ = (0, p)) := ⟨by rw [HO.out, hp']; rfl⟩
            have HA2 := Aside0.mk (show acrossG n ⟨hp, hs⟩ = [je.getD 1 default, je.getD 2 default] ∧ howG n ⟨hp, hs⟩ = [1, 2] from by rw [HAC.out.1, HAC.out.2]; exact aJ30 rfl)
            have hr1 := HWA.out
            rw [HA2.out.1] at hr1
            obtain ⟨A4, c4, e4, hc4, hC4⟩ := Kd.R_reads hr1
            replace hc4 : 2 ≤ c4 := hc4
            replace e4 : v1 = .slice A4 2 c4 := e4
            subst e4
            obtain ⟨ad4, rfl⟩ := C_some hC4 (by simp)
            have HAD : Aside0 (ad4.block ≠ w.heap.size + 1 + 1 + 1) := ⟨by have h1 := Kd.R_base hr1 ad4.block rfl; have h2 := D6'.out.lt; omega⟩
            obtain ⟨y0, y1⟩ := end0 hC4 rfl (by simp)
            replace y0 : w7.cell? ad4 = some (.int .i64 p.piece) := by rw [hp']; exact y0
            replace y1 : w7.cell? ⟨ad4.block, ad4.off + 1, none⟩ = some (.int .i64 p.side) := by rw [hp']; exact y1
            clear hr1 hC4 HO hp'
            by_cases hrk : r = 1000
            ·
              have HV := Aside0.mk (HFU.out (by rw [HOV.out]) hrk)
              subst hrk
              go_wp2_with (go_at_call 170; refine (stop_any 5 i w6.heap.size (w.heap.size + 1 + 1 + 1) 0 (-1) F tp B tw _ I7.out D7.out HIB.out).mono ?_; rintro e w8 ⟨rfl, hk8, hb8⟩; have Z8 := Aside0.mk (Z7.out.keep hk8 (by omega)); have B8 := Aside0.mk (B7.out.trans (hb8 w00.heap.size HB3.out B7.out.size)); clear hk8 hb8; have z0 := Z8.out.c 0 _ rfl; have z1 := Z8.out.c 1 _ rfl; have z2 := Z8.out.c 2 _ rfl; have z3 := Z8.out.c 3 _ rfl; have z4 := Z8.out.c 4 _ rfl; have z5 := Z8.out.c 5 _ rfl; have zf0 := Z8.out.f 0; have zf1 := Z8.out.f 1; have zf2 := Z8.out.f 2; have zf3 := Z8.out.f 3; have zf4 := Z8.out.f 4; have zf5 := Z8.out.f 5; have zlt := Z8.out.lt)
              refine bodyPost_ret (v := .agg #[.int .i64 5, .int .i64 F, .int .i64 i, .int .i64 tp, .int .i64 B, .int .i64 tw]) (by simp [results, Try.results112, go_sem, z0, z1, z2, z3, z4, z5, zf0, zf1, zf2, zf3, zf4, zf5, zlt]) rfl ⟨by rw [HV.out]; rfl, ?_⟩
              · have := HSZ00.out
                repeat (first | (with_reducible exact B8.out) | (with_reducible refine below_set ?_ (by omega)))
            ·
              have hrb : ((r : Int) == 1000) = false := by simp; omega
              have hr2 : r < 1000 := by omega
              obtain ⟨⟨ep, ea, ew⟩, hEn⟩ : ∃ z, z = enterS n p := ⟨_, rfl⟩
              have HENT := Aside0.mk hEn
              have HDJ := Aside0.mk (HNX.out (by rw [HOV.out]) hrk)
              rw [HOV.out] at HDJ
              have hsb := spotB_iff.1 (HDJ.out.spot)
              simp only at hsb
              rw [enterS_piece n p] at hsb
              have HO0 : Aside0 ((0 : Int) ≤ p.piece) := ⟨hsb.1⟩
              have HO1 : Aside0 (p.piece < (n.pieces.length : Int)) := ⟨hsb.2.1⟩
              clear hEn hrk hsb
              go_upto_region 30 with fail
              have HS9 : Aside0 (∀ W, Below w7.heap.size w7 W → (Below w00.heap.size w00 W ∧ W.cell? ⟨w.heap.size, 0, none⟩ = some (.slice A0 n.pieces.length c0) ∧ W.cell? ⟨w.heap.size, 1, none⟩ = some (.slice (some ad0) n.joints.length c1) ∧ W.cell? ad4 = some (.int .i64 p.piece) ∧ W.cell? ⟨ad4.block, ad4.off + 1, none⟩ = some (.int .i64 p.side))) :=
                ⟨fun W hb => ⟨below_lower B7.out hb B7.out.size, (N7.out.below hb).c 0 _ rfl, (N7.out.below hb).c 1 _ rfl, pw_cell_below hb y0, pw_cell_below hb y1⟩⟩
              have HT9 : Aside0 (∀ W, Below w7.heap.size w7 W → ∀ u0 u1 u2, (Below w00.heap.size w00 (((W.setCell ⟨w.heap.size + 1 + 1 + 1, 3, none⟩ u0).setCell ⟨w.heap.size + 1 + 1 + 1, 4, none⟩ u1).setCell ⟨w.heap.size + 1 + 1 + 1, 5, none⟩ u2) ∧ (((W.setCell ⟨w.heap.size + 1 + 1 + 1, 3, none⟩ u0).setCell ⟨w.heap.size + 1 + 1 + 1, 4, none⟩ u1).setCell ⟨w.heap.size + 1 + 1 + 1, 5, none⟩ u2).cell? ⟨w.heap.size, 0, none⟩ = some (.slice A0 n.pieces.length c0) ∧ (((W.setCell ⟨w.heap.size + 1 + 1 + 1, 3, none⟩ u0).setCell ⟨w.heap.size + 1 + 1 + 1, 4, none⟩ u1).setCell ⟨w.heap.size + 1 + 1 + 1, 5, none⟩ u2).cell? ⟨w.heap.size, 1, none⟩ = some (.slice (some ad0) n.joints.length c1) ∧ (((W.setCell ⟨w.heap.size + 1 + 1 + 1, 3, none⟩ u0).setCell ⟨w.heap.size + 1 + 1 + 1, 4, none⟩ u1).setCell ⟨w.heap.size + 1 + 1 + 1, 5, none⟩ u2).cell? ad4 = some (.int .i64 p.piece) ∧ (((W.setCell ⟨w.heap.size + 1 + 1 + 1, 3, none⟩ u0).setCell ⟨w.heap.size + 1 + 1 + 1, 4, none⟩ u1).setCell ⟨w.heap.size + 1 + 1 + 1, 5, none⟩ u2).cell? ⟨ad4.block, ad4.off + 1, none⟩ = some (.int .i64 p.side))) :=
                ⟨fun W hb u0 u1 u2 => ⟨below_set (below_set (below_set (below_lower B7.out hb B7.out.size) HB3.out) HB3.out) HB3.out, ((((N7.out.below hb).far (by omega) _).far (by omega) _).far (by omega) _).c 0 _ rfl, ((((N7.out.below hb).far (by omega) _).far (by omega) _).far (by omega) _).c 1 _ rfl, cell_far (cell_far (cell_far (pw_cell_below hb y0) HAD.out) HAD.out) HAD.out, cell_far (cell_far (cell_far (pw_cell_below hb y1) HAD.out) HAD.out) HAD.out⟩⟩
              go_region_held3 (fun W => Below w00.heap.size w00 W ∧ W.cell? ⟨w.heap.size, 0, none⟩ = some (.slice A0 n.pieces.length c0) ∧ W.cell? ⟨w.heap.size, 1, none⟩ = some (.slice (some ad0) n.joints.length c1) ∧ W.cell? ad4 = some (.int .i64 p.piece) ∧ W.cell? ⟨ad4.block, ad4.off + 1, none⟩ = some (.int .i64 p.side))
                (first | assumption | exact HS9.out _ (by assumption) | exact HT9.out _ (by assumption) _ _ _ | exact HS9.out _ (Below.drew (Below.refl _ _)))
                (first | (go_at_call 141; go_split_ands; refine Calls.mono (enter_any n ((A0, c0), (some ad0, c1)) p _ (HR.out.below (by assumption)) HO0.out HO1.out) ?_; rintro e w9 ⟨rfl, b3⟩; rw [← HENT.out]; have q9 : Below w7.heap.size w7 w9 := below_more (below_drew (Below.refl _ _)) b3; have B9 := Aside0.mk (below_lower B7.out q9 B7.out.size); have N9 := Aside0.mk (N7.out.below q9); have Z9 := Aside0.mk (Z7.out.below q9); have D9 := Aside0.mk (D7.out.below q9); clear b3; have d0 := D9.out.c 0 _ rfl; have d1 := D9.out.c 1 _ rfl; have d2 := D9.out.c 2 _ rfl; have d3 := D9.out.c 3 _ rfl; have d4 := D9.out.c 4 _ rfl; have d5 := D9.out.c 5 _ rfl; have df0 := D9.out.f 0; have df1 := D9.out.f 1; have df2 := D9.out.f 2; have df3 := D9.out.f 3; have df4 := D9.out.f 4; have df5 := D9.out.f 5))
              all_goals
                try go_wp2_with fail
                go_roundw
                case rel => exact ⟨r + 1, F, E, ⟨ep, ea, ew⟩, ps', rfl, by go_num, by omega, ⟨by rw [HE.out, HF.out, HDD.out]; omega⟩, ⟨by rw [HENT.out]; exact HDJ.out⟩, ⟨by have := HB3.out; repeat (first | (with_reducible exact B9.out) | (with_reducible refine below_set ?_ (by omega)))⟩, ⟨by repeat (first | (with_reducible exact N9.out) | (with_reducible refine Bx.far ?_ (by omega) _))⟩, ⟨by repeat (first | (with_reducible exact Z9.out) | (with_reducible refine Bx.far ?_ (by omega) _))⟩, ⟨(((D9.out.set (i := 3) (by simp) _).set (i := 4) (by simp) _).set (i := 5) (by simp) _)⟩⟩
                case measure => simp only [intOf]; omega
          ·
            obtain ⟨p, hp'⟩ : ∃ p, p = je.getD 0 default := ⟨_, rfl⟩
            have HOV : Aside0 (overL n lies ⟨hp, hs⟩ = (0, p)) := ⟨by rw [HO.out, hp']; rfl⟩
            have HA2 := Aside0.mk (show acrossG n ⟨hp, hs⟩ = [p] ∧ howG n ⟨hp, hs⟩ = [1] from by rw [HAC.out.1, HAC.out.2, hp']; exact aJ3 (q := 1) rfl (by omega))
            have hr1 := HWA.out
            have hr2 := HWH.out
            rw [HA2.out.1] at hr1
            obtain ⟨A4, c4, e4, hc4, hC4⟩ := Kd.R_reads hr1
            replace hc4 : 1 ≤ c4 := hc4
            replace e4 : v1 = .slice A4 1 c4 := e4
            subst e4
            obtain ⟨ad4, rfl⟩ := C_some hC4 (by simp)
            have HAD : Aside0 (ad4.block ≠ w.heap.size + 1 + 1 + 1) := ⟨by have h1 := Kd.R_base hr1 ad4.block rfl; have h2 := D6'.out.lt; omega⟩
            rw [HA2.out.2] at hr2
            obtain ⟨A5, c5, e5, hc5, hC5⟩ := Kd.R_reads hr2
            replace hc5 : 1 ≤ c5 := hc5
            replace e5 : v2 = .slice A5 1 c5 := e5
            subst e5
            obtain ⟨ad5, e6, h5⟩ := at_Int hC5 0 (by simp)
            subst e6
            replace h5 : w7.cell? ad5 = some (.int .i64 1) := by simpa [Addr.add] using h5
            obtain ⟨y0, y1⟩ := end0 hC4 rfl (by simp)
            replace y0 : w7.cell? ad4 = some (.int .i64 p.piece) := y0
            replace y1 : w7.cell? ⟨ad4.block, ad4.off + 1, none⟩ = some (.int .i64 p.side) := y1
            clear hr1 hr2 hC4 HO hp' hC5
            by_cases hrk : r = 1000
            ·
              have HV := Aside0.mk (HFU.out (by rw [HOV.out]) hrk)
              subst hrk
              go_wp2_with fail
              go_quiet (fail)
              obtain ⟨w77, hw77⟩ : ∃ W, W = w7.drewN nq := ⟨_, rfl⟩
              have B7 : Aside0 (Below w00.heap.size w00 w77) := ⟨by rw [hw77]; exact below_lower B7.out (below_drewN' (Below.refl _ _) _) B7.out.size⟩
              have N7 : Aside0 (Bx w77 w.heap.size [.slice A0 n.pieces.length c0, .slice (some ad0) n.joints.length c1]) := ⟨by rw [hw77]; exact N7.out.drewN _⟩
              have Z7 : Aside0 (Bx w77 (w.heap.size + 1 + 1) [.int .i64 0, .int .i64 0, .int .i64 0, .int .i64 0, .int .i64 0, .int .i64 0]) := ⟨by rw [hw77]; exact Z7.out.drewN _⟩
              have D7 : Aside0 (Bx w77 (w.heap.size + 1 + 1 + 1) [.int .i64 0, .int .i64 F, .int .i64 (-1), .int .i64 tp, .int .i64 B, .int .i64 tw]) := ⟨by rw [hw77]; exact D7.out.drewN _⟩
              have I7 : Aside0 (Bx w77 w6.heap.size [.int .i64 i]) := ⟨by rw [hw77]; exact I7.out.drewN _⟩
              rw [← hw77]
              clear hw77
              clear n0 n1 i0
              have n0 := N7.out.c 0 _ rfl; have n1 := N7.out.c 1 _ rfl; have i0 := I7.out.c 0 _ rfl
              go_wp2_with (go_at_call 170; refine (stop_any 5 i w6.heap.size (w.heap.size + 1 + 1 + 1) 0 (-1) F tp B tw _ I7.out D7.out HIB.out).mono ?_; rintro e w8 ⟨rfl, hk8, hb8⟩; have Z8 := Aside0.mk (Z7.out.keep hk8 (by omega)); have B8 := Aside0.mk (B7.out.trans (hb8 w00.heap.size HB3.out B7.out.size)); clear hk8 hb8; have z0 := Z8.out.c 0 _ rfl; have z1 := Z8.out.c 1 _ rfl; have z2 := Z8.out.c 2 _ rfl; have z3 := Z8.out.c 3 _ rfl; have z4 := Z8.out.c 4 _ rfl; have z5 := Z8.out.c 5 _ rfl; have zf0 := Z8.out.f 0; have zf1 := Z8.out.f 1; have zf2 := Z8.out.f 2; have zf3 := Z8.out.f 3; have zf4 := Z8.out.f 4; have zf5 := Z8.out.f 5; have zlt := Z8.out.lt)
              refine bodyPost_ret (v := .agg #[.int .i64 5, .int .i64 F, .int .i64 i, .int .i64 tp, .int .i64 B, .int .i64 tw]) (by simp [results, Try.results112, go_sem, z0, z1, z2, z3, z4, z5, zf0, zf1, zf2, zf3, zf4, zf5, zlt]) rfl ⟨by rw [HV.out]; rfl, ?_⟩
              · have := HSZ00.out
                repeat (first | (with_reducible exact B8.out) | (with_reducible refine below_set ?_ (by omega)))
            ·
              have hrb : ((r : Int) == 1000) = false := by simp; omega
              have hr2 : r < 1000 := by omega
              obtain ⟨⟨ep, ea, ew⟩, hEn⟩ : ∃ z, z = enterS n p := ⟨_, rfl⟩
              have HENT := Aside0.mk hEn
              have HDJ := Aside0.mk (HNX.out (by rw [HOV.out]) hrk)
              rw [HOV.out] at HDJ
              have hsb := spotB_iff.1 (HDJ.out.spot)
              simp only at hsb
              rw [enterS_piece n p] at hsb
              have HO0 : Aside0 ((0 : Int) ≤ p.piece) := ⟨hsb.1⟩
              have HO1 : Aside0 (p.piece < (n.pieces.length : Int)) := ⟨hsb.2.1⟩
              clear hEn hrk hsb
              go_wp2_with fail
              go_quiet (fail)
              obtain ⟨w77, hw77⟩ : ∃ W, W = w7.drewN nq := ⟨_, rfl⟩
              have B7 : Aside0 (Below w00.heap.size w00 w77) := ⟨by rw [hw77]; exact below_lower B7.out (below_drewN' (Below.refl _ _) _) B7.out.size⟩
              have N7 : Aside0 (Bx w77 w.heap.size [.slice A0 n.pieces.length c0, .slice (some ad0) n.joints.length c1]) := ⟨by rw [hw77]; exact N7.out.drewN _⟩
              have Z7 : Aside0 (Bx w77 (w.heap.size + 1 + 1) [.int .i64 0, .int .i64 0, .int .i64 0, .int .i64 0, .int .i64 0, .int .i64 0]) := ⟨by rw [hw77]; exact Z7.out.drewN _⟩
              have D7 : Aside0 (Bx w77 (w.heap.size + 1 + 1 + 1) [.int .i64 0, .int .i64 F, .int .i64 (-1), .int .i64 tp, .int .i64 B, .int .i64 tw]) := ⟨by rw [hw77]; exact D7.out.drewN _⟩
              have I7 : Aside0 (Bx w77 w6.heap.size [.int .i64 i]) := ⟨by rw [hw77]; exact I7.out.drewN _⟩
              replace y0 : w77.cell? ad4 = some (.int .i64 p.piece) := by rw [hw77]; exact y0
              replace y1 : w77.cell? ⟨ad4.block, ad4.off + 1, none⟩ = some (.int .i64 p.side) := by rw [hw77]; exact y1
              rw [← hw77]
              clear hw77
              clear n0 n1 i0
              have n0 := N7.out.c 0 _ rfl; have n1 := N7.out.c 1 _ rfl; have i0 := I7.out.c 0 _ rfl
              go_upto_region 30 with fail
              have HS9 : Aside0 (∀ W, Below w77.heap.size w77 W → (Below w00.heap.size w00 W ∧ W.cell? ⟨w.heap.size, 0, none⟩ = some (.slice A0 n.pieces.length c0) ∧ W.cell? ⟨w.heap.size, 1, none⟩ = some (.slice (some ad0) n.joints.length c1) ∧ W.cell? ad4 = some (.int .i64 p.piece) ∧ W.cell? ⟨ad4.block, ad4.off + 1, none⟩ = some (.int .i64 p.side))) :=
                ⟨fun W hb => ⟨below_lower B7.out hb B7.out.size, (N7.out.below hb).c 0 _ rfl, (N7.out.below hb).c 1 _ rfl, pw_cell_below hb y0, pw_cell_below hb y1⟩⟩
              have HT9 : Aside0 (∀ W, Below w77.heap.size w77 W → ∀ u0 u1 u2, (Below w00.heap.size w00 (((W.setCell ⟨w.heap.size + 1 + 1 + 1, 3, none⟩ u0).setCell ⟨w.heap.size + 1 + 1 + 1, 4, none⟩ u1).setCell ⟨w.heap.size + 1 + 1 + 1, 5, none⟩ u2) ∧ (((W.setCell ⟨w.heap.size + 1 + 1 + 1, 3, none⟩ u0).setCell ⟨w.heap.size + 1 + 1 + 1, 4, none⟩ u1).setCell ⟨w.heap.size + 1 + 1 + 1, 5, none⟩ u2).cell? ⟨w.heap.size, 0, none⟩ = some (.slice A0 n.pieces.length c0) ∧ (((W.setCell ⟨w.heap.size + 1 + 1 + 1, 3, none⟩ u0).setCell ⟨w.heap.size + 1 + 1 + 1, 4, none⟩ u1).setCell ⟨w.heap.size + 1 + 1 + 1, 5, none⟩ u2).cell? ⟨w.heap.size, 1, none⟩ = some (.slice (some ad0) n.joints.length c1) ∧ (((W.setCell ⟨w.heap.size + 1 + 1 + 1, 3, none⟩ u0).setCell ⟨w.heap.size + 1 + 1 + 1, 4, none⟩ u1).setCell ⟨w.heap.size + 1 + 1 + 1, 5, none⟩ u2).cell? ad4 = some (.int .i64 p.piece) ∧ (((W.setCell ⟨w.heap.size + 1 + 1 + 1, 3, none⟩ u0).setCell ⟨w.heap.size + 1 + 1 + 1, 4, none⟩ u1).setCell ⟨w.heap.size + 1 + 1 + 1, 5, none⟩ u2).cell? ⟨ad4.block, ad4.off + 1, none⟩ = some (.int .i64 p.side))) :=
                ⟨fun W hb u0 u1 u2 => ⟨below_set (below_set (below_set (below_lower B7.out hb B7.out.size) HB3.out) HB3.out) HB3.out, ((((N7.out.below hb).far (by omega) _).far (by omega) _).far (by omega) _).c 0 _ rfl, ((((N7.out.below hb).far (by omega) _).far (by omega) _).far (by omega) _).c 1 _ rfl, cell_far (cell_far (cell_far (pw_cell_below hb y0) HAD.out) HAD.out) HAD.out, cell_far (cell_far (cell_far (pw_cell_below hb y1) HAD.out) HAD.out) HAD.out⟩⟩
              go_region_held3 (fun W => Below w00.heap.size w00 W ∧ W.cell? ⟨w.heap.size, 0, none⟩ = some (.slice A0 n.pieces.length c0) ∧ W.cell? ⟨w.heap.size, 1, none⟩ = some (.slice (some ad0) n.joints.length c1) ∧ W.cell? ad4 = some (.int .i64 p.piece) ∧ W.cell? ⟨ad4.block, ad4.off + 1, none⟩ = some (.int .i64 p.side))
                (first | assumption | exact HS9.out _ (by assumption) | exact HT9.out _ (by assumption) _ _ _ | exact HS9.out _ (Below.drew (Below.refl _ _)))
                (first | (go_at_call 141; go_split_ands; refine Calls.mono (enter_any n ((A0, c0), (some ad0, c1)) p _ (HR.out.below (by assumption)) HO0.out HO1.out) ?_; rintro e w9 ⟨rfl, b3⟩; rw [← HENT.out]; have q9 : Below w77.heap.size w77 w9 := below_more (below_drew (Below.refl _ _)) b3; have B9 := Aside0.mk (below_lower B7.out q9 B7.out.size); have N9 := Aside0.mk (N7.out.below q9); have Z9 := Aside0.mk (Z7.out.below q9); have D9 := Aside0.mk (D7.out.below q9); clear b3; have d0 := D9.out.c 0 _ rfl; have d1 := D9.out.c 1 _ rfl; have d2 := D9.out.c 2 _ rfl; have d3 := D9.out.c 3 _ rfl; have d4 := D9.out.c 4 _ rfl; have d5 := D9.out.c 5 _ rfl; have df0 := D9.out.f 0; have df1 := D9.out.f 1; have df2 := D9.out.f 2; have df3 := D9.out.f 3; have df4 := D9.out.f 4; have df5 := D9.out.f 5))
              all_goals
                try go_wp2_with fail
                go_roundw
                case rel => exact ⟨r + 1, F, E, ⟨ep, ea, ew⟩, ps', rfl, by go_num, by omega, ⟨by rw [HE.out, HF.out, HDD.out]; omega⟩, ⟨by rw [HENT.out]; exact HDJ.out⟩, ⟨by have := HB3.out; repeat (first | (with_reducible exact B9.out) | (with_reducible refine below_set ?_ (by omega)))⟩, ⟨by repeat (first | (with_reducible exact N9.out) | (with_reducible refine Bx.far ?_ (by omega) _))⟩, ⟨by repeat (first | (with_reducible exact Z9.out) | (with_reducible refine Bx.far ?_ (by omega) _))⟩, ⟨(((D9.out.set (i := 3) (by simp) _).set (i := 4) (by simp) _).set (i := 5) (by simp) _)⟩⟩
                case measure => simp only [intOf]; omega
          ·
            have HOV : Aside0 (overL n lies ⟨hp, hs⟩ = (3, ⟨hp, hs⟩)) := ⟨by rw [HO.out]; rfl⟩
            have HA2 := Aside0.mk (show acrossG n ⟨hp, hs⟩ = [je.getD 0 default] ∧ howG n ⟨hp, hs⟩ = [2] from by rw [HAC.out.1, HAC.out.2]; exact aJ3 (q := 2) rfl (by omega))
            have hr1 := HWA.out
            have hr2 := HWH.out
            rw [HA2.out.1] at hr1
            obtain ⟨A4, c4, e4, hc4, hC4⟩ := Kd.R_reads hr1
            replace hc4 : 1 ≤ c4 := hc4
            replace e4 : v1 = .slice A4 1 c4 := e4
            subst e4
            obtain ⟨ad4, rfl⟩ := C_some hC4 (by simp)
            have HAD : Aside0 (ad4.block ≠ w.heap.size + 1 + 1 + 1) := ⟨by have h1 := Kd.R_base hr1 ad4.block rfl; have h2 := D6'.out.lt; omega⟩
            rw [HA2.out.2] at hr2
            obtain ⟨A5, c5, e5, hc5, hC5⟩ := Kd.R_reads hr2
            replace hc5 : 1 ≤ c5 := hc5
            replace e5 : v2 = .slice A5 1 c5 := e5
            subst e5
            obtain ⟨ad5, e6, h5⟩ := at_Int hC5 0 (by simp)
            subst e6
            replace h5 : w7.cell? ad5 = some (.int .i64 2) := by simpa [Addr.add] using h5
            clear hr1 hr2 hC4 hC5
            have HV := Aside0.mk (HST.out (by rw [HOV.out]; show (3 : Int) ≠ 0; decide))
            rw [HOV.out] at HV
            clear HO
            go_wp2_with fail
            go_quiet (fail)
            obtain ⟨w77, hw77⟩ : ∃ W, W = w7.drewN nq := ⟨_, rfl⟩
            have B7 : Aside0 (Below w00.heap.size w00 w77) := ⟨by rw [hw77]; exact below_lower B7.out (below_drewN' (Below.refl _ _) _) B7.out.size⟩
            have N7 : Aside0 (Bx w77 w.heap.size [.slice A0 n.pieces.length c0, .slice (some ad0) n.joints.length c1]) := ⟨by rw [hw77]; exact N7.out.drewN _⟩
            have Z7 : Aside0 (Bx w77 (w.heap.size + 1 + 1) [.int .i64 0, .int .i64 0, .int .i64 0, .int .i64 0, .int .i64 0, .int .i64 0]) := ⟨by rw [hw77]; exact Z7.out.drewN _⟩
            have D7 : Aside0 (Bx w77 (w.heap.size + 1 + 1 + 1) [.int .i64 0, .int .i64 F, .int .i64 (-1), .int .i64 tp, .int .i64 B, .int .i64 tw]) := ⟨by rw [hw77]; exact D7.out.drewN _⟩
            have I7 : Aside0 (Bx w77 w6.heap.size [.int .i64 i]) := ⟨by rw [hw77]; exact I7.out.drewN _⟩
            rw [← hw77]
            clear hw77
            clear n0 n1 i0
            have n0 := N7.out.c 0 _ rfl; have n1 := N7.out.c 1 _ rfl; have i0 := I7.out.c 0 _ rfl
            go_wp2_with (go_at_call 170; refine (stop_any 3 i w6.heap.size (w.heap.size + 1 + 1 + 1) 0 (-1) F tp B tw _ I7.out D7.out HIB.out).mono ?_; rintro e w8 ⟨rfl, hk8, hb8⟩; have Z8 := Aside0.mk (Z7.out.keep hk8 (by omega)); have B8 := Aside0.mk (B7.out.trans (hb8 w00.heap.size HB3.out B7.out.size)); clear hk8 hb8; have z0 := Z8.out.c 0 _ rfl; have z1 := Z8.out.c 1 _ rfl; have z2 := Z8.out.c 2 _ rfl; have z3 := Z8.out.c 3 _ rfl; have z4 := Z8.out.c 4 _ rfl; have z5 := Z8.out.c 5 _ rfl; have zf0 := Z8.out.f 0; have zf1 := Z8.out.f 1; have zf2 := Z8.out.f 2; have zf3 := Z8.out.f 3; have zf4 := Z8.out.f 4; have zf5 := Z8.out.f 5; have zlt := Z8.out.lt)
            refine bodyPost_ret (v := .agg #[.int .i64 3, .int .i64 F, .int .i64 i, .int .i64 tp, .int .i64 B, .int .i64 tw]) (by simp [results, Try.results112, go_sem, z0, z1, z2, z3, z4, z5, zf0, zf1, zf2, zf3, zf4, zf5, zlt]) rfl ⟨by rw [HV.out]; rfl, ?_⟩
            · have := HSZ00.out
              repeat (first | (with_reducible exact B8.out) | (with_reducible refine below_set ?_ (by omega)))
        ·
          rcases hqc with rfl | rfl | rfl
          ·
            obtain ⟨p, hp'⟩ : ∃ p, p = je.getD 2 default := ⟨_, rfl⟩
            have HOV : Aside0 (overL n lies ⟨hp, hs⟩ = (0, p)) := ⟨by rw [HO.out, hp']; rfl⟩
            have HA2 := Aside0.mk (show acrossG n ⟨hp, hs⟩ = [je.getD 1 default, je.getD 2 default] ∧ howG n ⟨hp, hs⟩ = [1, 2] from by rw [HAC.out.1, HAC.out.2]; exact aJ30 rfl)
            have hr1 := HWA.out
            rw [HA2.out.1] at hr1
            obtain ⟨A4, c4, e4, hc4, hC4⟩ := Kd.R_reads hr1
            replace hc4 : 2 ≤ c4 := hc4
            replace e4 : v1 = .slice A4 2 c4 := e4
            subst e4
            obtain ⟨ad4, rfl⟩ := C_some hC4 (by simp)
            have HAD : Aside0 (ad4.block ≠ w.heap.size + 1 + 1 + 1) := ⟨by have h1 := Kd.R_base hr1 ad4.block rfl; have h2 := D6'.out.lt; omega⟩
            obtain ⟨y0, y1⟩ := end1 hC4 rfl (by simp)
            replace y0 : w7.cell? ⟨ad4.block, ad4.off + 2, none⟩ = some (.int .i64 p.piece) := by rw [hp']; exact y0
            replace y1 : w7.cell? ⟨ad4.block, ad4.off + 3, none⟩ = some (.int .i64 p.side) := by rw [hp']; exact y1
            clear hr1 hC4 HO hp'
            by_cases hrk : r = 1000
            ·
              have HV := Aside0.mk (HFU.out (by rw [HOV.out]) hrk)
              subst hrk
              go_wp2_with (go_at_call 170; refine (stop_any 5 i w6.heap.size (w.heap.size + 1 + 1 + 1) 0 (-1) F tp B tw _ I7.out D7.out HIB.out).mono ?_; rintro e w8 ⟨rfl, hk8, hb8⟩; have Z8 := Aside0.mk (Z7.out.keep hk8 (by omega)); have B8 := Aside0.mk (B7.out.trans (hb8 w00.heap.size HB3.out B7.out.size)); clear hk8 hb8; have z0 := Z8.out.c 0 _ rfl; have z1 := Z8.out.c 1 _ rfl; have z2 := Z8.out.c 2 _ rfl; have z3 := Z8.out.c 3 _ rfl; have z4 := Z8.out.c 4 _ rfl; have z5 := Z8.out.c 5 _ rfl; have zf0 := Z8.out.f 0; have zf1 := Z8.out.f 1; have zf2 := Z8.out.f 2; have zf3 := Z8.out.f 3; have zf4 := Z8.out.f 4; have zf5 := Z8.out.f 5; have zlt := Z8.out.lt)
              refine bodyPost_ret (v := .agg #[.int .i64 5, .int .i64 F, .int .i64 i, .int .i64 tp, .int .i64 B, .int .i64 tw]) (by simp [results, Try.results112, go_sem, z0, z1, z2, z3, z4, z5, zf0, zf1, zf2, zf3, zf4, zf5, zlt]) rfl ⟨by rw [HV.out]; rfl, ?_⟩
              · have := HSZ00.out
                repeat (first | (with_reducible exact B8.out) | (with_reducible refine below_set ?_ (by omega)))
            ·
              have hrb : ((r : Int) == 1000) = false := by simp; omega
              have hr2 : r < 1000 := by omega
              obtain ⟨⟨ep, ea, ew⟩, hEn⟩ : ∃ z, z = enterS n p := ⟨_, rfl⟩
              have HENT := Aside0.mk hEn
              have HDJ := Aside0.mk (HNX.out (by rw [HOV.out]) hrk)
              rw [HOV.out] at HDJ
              have hsb := spotB_iff.1 (HDJ.out.spot)
              simp only at hsb
              rw [enterS_piece n p] at hsb
              have HO0 : Aside0 ((0 : Int) ≤ p.piece) := ⟨hsb.1⟩
              have HO1 : Aside0 (p.piece < (n.pieces.length : Int)) := ⟨hsb.2.1⟩
              clear hEn hrk hsb
              go_upto_region 30 with fail
              have HS9 : Aside0 (∀ W, Below w7.heap.size w7 W → (Below w00.heap.size w00 W ∧ W.cell? ⟨w.heap.size, 0, none⟩ = some (.slice A0 n.pieces.length c0) ∧ W.cell? ⟨w.heap.size, 1, none⟩ = some (.slice (some ad0) n.joints.length c1) ∧ W.cell? ⟨ad4.block, ad4.off + 2, none⟩ = some (.int .i64 p.piece) ∧ W.cell? ⟨ad4.block, ad4.off + 3, none⟩ = some (.int .i64 p.side))) :=
                ⟨fun W hb => ⟨below_lower B7.out hb B7.out.size, (N7.out.below hb).c 0 _ rfl, (N7.out.below hb).c 1 _ rfl, pw_cell_below hb y0, pw_cell_below hb y1⟩⟩
              have HT9 : Aside0 (∀ W, Below w7.heap.size w7 W → ∀ u0 u1 u2, (Below w00.heap.size w00 (((W.setCell ⟨w.heap.size + 1 + 1 + 1, 3, none⟩ u0).setCell ⟨w.heap.size + 1 + 1 + 1, 4, none⟩ u1).setCell ⟨w.heap.size + 1 + 1 + 1, 5, none⟩ u2) ∧ (((W.setCell ⟨w.heap.size + 1 + 1 + 1, 3, none⟩ u0).setCell ⟨w.heap.size + 1 + 1 + 1, 4, none⟩ u1).setCell ⟨w.heap.size + 1 + 1 + 1, 5, none⟩ u2).cell? ⟨w.heap.size, 0, none⟩ = some (.slice A0 n.pieces.length c0) ∧ (((W.setCell ⟨w.heap.size + 1 + 1 + 1, 3, none⟩ u0).setCell ⟨w.heap.size + 1 + 1 + 1, 4, none⟩ u1).setCell ⟨w.heap.size + 1 + 1 + 1, 5, none⟩ u2).cell? ⟨w.heap.size, 1, none⟩ = some (.slice (some ad0) n.joints.length c1) ∧ (((W.setCell ⟨w.heap.size + 1 + 1 + 1, 3, none⟩ u0).setCell ⟨w.heap.size + 1 + 1 + 1, 4, none⟩ u1).setCell ⟨w.heap.size + 1 + 1 + 1, 5, none⟩ u2).cell? ⟨ad4.block, ad4.off + 2, none⟩ = some (.int .i64 p.piece) ∧ (((W.setCell ⟨w.heap.size + 1 + 1 + 1, 3, none⟩ u0).setCell ⟨w.heap.size + 1 + 1 + 1, 4, none⟩ u1).setCell ⟨w.heap.size + 1 + 1 + 1, 5, none⟩ u2).cell? ⟨ad4.block, ad4.off + 3, none⟩ = some (.int .i64 p.side))) :=
                ⟨fun W hb u0 u1 u2 => ⟨below_set (below_set (below_set (below_lower B7.out hb B7.out.size) HB3.out) HB3.out) HB3.out, ((((N7.out.below hb).far (by omega) _).far (by omega) _).far (by omega) _).c 0 _ rfl, ((((N7.out.below hb).far (by omega) _).far (by omega) _).far (by omega) _).c 1 _ rfl, cell_far (cell_far (cell_far (pw_cell_below hb y0) HAD.out) HAD.out) HAD.out, cell_far (cell_far (cell_far (pw_cell_below hb y1) HAD.out) HAD.out) HAD.out⟩⟩
              go_region_held3 (fun W => Below w00.heap.size w00 W ∧ W.cell? ⟨w.heap.size, 0, none⟩ = some (.slice A0 n.pieces.length c0) ∧ W.cell? ⟨w.heap.size, 1, none⟩ = some (.slice (some ad0) n.joints.length c1) ∧ W.cell? ⟨ad4.block, ad4.off + 2, none⟩ = some (.int .i64 p.piece) ∧ W.cell? ⟨ad4.block, ad4.off + 3, none⟩ = some (.int .i64 p.side))
                (first | assumption | exact HS9.out _ (by assumption) | exact HT9.out _ (by assumption) _ _ _ | exact HS9.out _ (Below.drew (Below.refl _ _)))
                (first | (go_at_call 141; go_split_ands; refine Calls.mono (enter_any n ((A0, c0), (some ad0, c1)) p _ (HR.out.below (by assumption)) HO0.out HO1.out) ?_; rintro e w9 ⟨rfl, b3⟩; rw [← HENT.out]; have q9 : Below w7.heap.size w7 w9 := below_more (below_drew (Below.refl _ _)) b3; have B9 := Aside0.mk (below_lower B7.out q9 B7.out.size); have N9 := Aside0.mk (N7.out.below q9); have Z9 := Aside0.mk (Z7.out.below q9); have D9 := Aside0.mk (D7.out.below q9); clear b3; have d0 := D9.out.c 0 _ rfl; have d1 := D9.out.c 1 _ rfl; have d2 := D9.out.c 2 _ rfl; have d3 := D9.out.c 3 _ rfl; have d4 := D9.out.c 4 _ rfl; have d5 := D9.out.c 5 _ rfl; have df0 := D9.out.f 0; have df1 := D9.out.f 1; have df2 := D9.out.f 2; have df3 := D9.out.f 3; have df4 := D9.out.f 4; have df5 := D9.out.f 5))
              all_goals
                try go_wp2_with fail
                go_roundw
                case rel => exact ⟨r + 1, F, E, ⟨ep, ea, ew⟩, ps', rfl, by go_num, by omega, ⟨by rw [HE.out, HF.out, HDD.out]; omega⟩, ⟨by rw [HENT.out]; exact HDJ.out⟩, ⟨by have := HB3.out; repeat (first | (with_reducible exact B9.out) | (with_reducible refine below_set ?_ (by omega)))⟩, ⟨by repeat (first | (with_reducible exact N9.out) | (with_reducible refine Bx.far ?_ (by omega) _))⟩, ⟨by repeat (first | (with_reducible exact Z9.out) | (with_reducible refine Bx.far ?_ (by omega) _))⟩, ⟨(((D9.out.set (i := 3) (by simp) _).set (i := 4) (by simp) _).set (i := 5) (by simp) _)⟩⟩
                case measure => simp only [intOf]; omega
          ·
            have HOV : Aside0 (overL n lies ⟨hp, hs⟩ = (3, ⟨hp, hs⟩)) := ⟨by rw [HO.out]; rfl⟩
            have HA2 := Aside0.mk (show acrossG n ⟨hp, hs⟩ = [je.getD 0 default] ∧ howG n ⟨hp, hs⟩ = [1] from by rw [HAC.out.1, HAC.out.2]; exact aJ3 (q := 1) rfl (by omega))
            have hr1 := HWA.out
            have hr2 := HWH.out
            rw [HA2.out.1] at hr1
            obtain ⟨A4, c4, e4, hc4, hC4⟩ := Kd.R_reads hr1
            replace hc4 : 1 ≤ c4 := hc4
            replace e4 : v1 = .slice A4 1 c4 := e4
            subst e4
            obtain ⟨ad4, rfl⟩ := C_some hC4 (by simp)
            have HAD : Aside0 (ad4.block ≠ w.heap.size + 1 + 1 + 1) := ⟨by have h1 := Kd.R_base hr1 ad4.block rfl; have h2 := D6'.out.lt; omega⟩
            rw [HA2.out.2] at hr2
            obtain ⟨A5, c5, e5, hc5, hC5⟩ := Kd.R_reads hr2
            replace hc5 : 1 ≤ c5 := hc5
            replace e5 : v2 = .slice A5 1 c5 := e5
            subst e5
            obtain ⟨ad5, e6, h5⟩ := at_Int hC5 0 (by simp)
            subst e6
            replace h5 : w7.cell? ad5 = some (.int .i64 1) := by simpa [Addr.add] using h5
            clear hr1 hr2 hC4 hC5
            have HV := Aside0.mk (HST.out (by rw [HOV.out]; show (3 : Int) ≠ 0; decide))
            rw [HOV.out] at HV
            clear HO
            go_wp2_with fail
            go_quiet (fail)
            obtain ⟨w77, hw77⟩ : ∃ W, W = w7.drewN nq := ⟨_, rfl⟩
            have B7 : Aside0 (Below w00.heap.size w00 w77) := ⟨by rw [hw77]; exact below_lower B7.out (below_drewN' (Below.refl _ _) _) B7.out.size⟩
            have N7 : Aside0 (Bx w77 w.heap.size [.slice A0 n.pieces.length c0, .slice (some ad0) n.joints.length c1]) := ⟨by rw [hw77]; exact N7.out.drewN _⟩
            have Z7 : Aside0 (Bx w77 (w.heap.size + 1 + 1) [.int .i64 0, .int .i64 0, .int .i64 0, .int .i64 0, .int .i64 0, .int .i64 0]) := ⟨by rw [hw77]; exact Z7.out.drewN _⟩
            have D7 : Aside0 (Bx w77 (w.heap.size + 1 + 1 + 1) [.int .i64 0, .int .i64 F, .int .i64 (-1), .int .i64 tp, .int .i64 B, .int .i64 tw]) := ⟨by rw [hw77]; exact D7.out.drewN _⟩
            have I7 : Aside0 (Bx w77 w6.heap.size [.int .i64 i]) := ⟨by rw [hw77]; exact I7.out.drewN _⟩
            rw [← hw77]
            clear hw77
            clear n0 n1 i0
            have n0 := N7.out.c 0 _ rfl; have n1 := N7.out.c 1 _ rfl; have i0 := I7.out.c 0 _ rfl
            go_wp2_with (go_at_call 170; refine (stop_any 3 i w6.heap.size (w.heap.size + 1 + 1 + 1) 0 (-1) F tp B tw _ I7.out D7.out HIB.out).mono ?_; rintro e w8 ⟨rfl, hk8, hb8⟩; have Z8 := Aside0.mk (Z7.out.keep hk8 (by omega)); have B8 := Aside0.mk (B7.out.trans (hb8 w00.heap.size HB3.out B7.out.size)); clear hk8 hb8; have z0 := Z8.out.c 0 _ rfl; have z1 := Z8.out.c 1 _ rfl; have z2 := Z8.out.c 2 _ rfl; have z3 := Z8.out.c 3 _ rfl; have z4 := Z8.out.c 4 _ rfl; have z5 := Z8.out.c 5 _ rfl; have zf0 := Z8.out.f 0; have zf1 := Z8.out.f 1; have zf2 := Z8.out.f 2; have zf3 := Z8.out.f 3; have zf4 := Z8.out.f 4; have zf5 := Z8.out.f 5; have zlt := Z8.out.lt)
            refine bodyPost_ret (v := .agg #[.int .i64 3, .int .i64 F, .int .i64 i, .int .i64 tp, .int .i64 B, .int .i64 tw]) (by simp [results, Try.results112, go_sem, z0, z1, z2, z3, z4, z5, zf0, zf1, zf2, zf3, zf4, zf5, zlt]) rfl ⟨by rw [HV.out]; rfl, ?_⟩
            · have := HSZ00.out
              repeat (first | (with_reducible exact B8.out) | (with_reducible refine below_set ?_ (by omega)))
          ·
            obtain ⟨p, hp'⟩ : ∃ p, p = je.getD 0 default := ⟨_, rfl⟩
            have HOV : Aside0 (overL n lies ⟨hp, hs⟩ = (0, p)) := ⟨by rw [HO.out, hp']; rfl⟩
            have HA2 := Aside0.mk (show acrossG n ⟨hp, hs⟩ = [p] ∧ howG n ⟨hp, hs⟩ = [2] from by rw [HAC.out.1, HAC.out.2, hp']; exact aJ3 (q := 2) rfl (by omega))
            have hr1 := HWA.out
            have hr2 := HWH.out
            rw [HA2.out.1] at hr1
            obtain ⟨A4, c4, e4, hc4, hC4⟩ := Kd.R_reads hr1
            replace hc4 : 1 ≤ c4 := hc4
            replace e4 : v1 = .slice A4 1 c4 := e4
            subst e4
            obtain ⟨ad4, rfl⟩ := C_some hC4 (by simp)
            have HAD : Aside0 (ad4.block ≠ w.heap.size + 1 + 1 + 1) := ⟨by have h1 := Kd.R_base hr1 ad4.block rfl; have h2 := D6'.out.lt; omega⟩
            rw [HA2.out.2] at hr2
            obtain ⟨A5, c5, e5, hc5, hC5⟩ := Kd.R_reads hr2
            replace hc5 : 1 ≤ c5 := hc5
            replace e5 : v2 = .slice A5 1 c5 := e5
            subst e5
            obtain ⟨ad5, e6, h5⟩ := at_Int hC5 0 (by simp)
            subst e6
            replace h5 : w7.cell? ad5 = some (.int .i64 2) := by simpa [Addr.add] using h5
            obtain ⟨y0, y1⟩ := end0 hC4 rfl (by simp)
            replace y0 : w7.cell? ad4 = some (.int .i64 p.piece) := y0
            replace y1 : w7.cell? ⟨ad4.block, ad4.off + 1, none⟩ = some (.int .i64 p.side) := y1
            clear hr1 hr2 hC4 HO hp' hC5
            by_cases hrk : r = 1000
            ·
              have HV := Aside0.mk (HFU.out (by rw [HOV.out]) hrk)
              subst hrk
              go_wp2_with fail
              go_quiet (fail)
              obtain ⟨w77, hw77⟩ : ∃ W, W = w7.drewN nq := ⟨_, rfl⟩
              have B7 : Aside0 (Below w00.heap.size w00 w77) := ⟨by rw [hw77]; exact below_lower B7.out (below_drewN' (Below.refl _ _) _) B7.out.size⟩
              have N7 : Aside0 (Bx w77 w.heap.size [.slice A0 n.pieces.length c0, .slice (some ad0) n.joints.length c1]) := ⟨by rw [hw77]; exact N7.out.drewN _⟩
              have Z7 : Aside0 (Bx w77 (w.heap.size + 1 + 1) [.int .i64 0, .int .i64 0, .int .i64 0, .int .i64 0, .int .i64 0, .int .i64 0]) := ⟨by rw [hw77]; exact Z7.out.drewN _⟩
              have D7 : Aside0 (Bx w77 (w.heap.size + 1 + 1 + 1) [.int .i64 0, .int .i64 F, .int .i64 (-1), .int .i64 tp, .int .i64 B, .int .i64 tw]) := ⟨by rw [hw77]; exact D7.out.drewN _⟩
              have I7 : Aside0 (Bx w77 w6.heap.size [.int .i64 i]) := ⟨by rw [hw77]; exact I7.out.drewN _⟩
              rw [← hw77]
              clear hw77
              clear n0 n1 i0
              have n0 := N7.out.c 0 _ rfl; have n1 := N7.out.c 1 _ rfl; have i0 := I7.out.c 0 _ rfl
              go_wp2_with (go_at_call 170; refine (stop_any 5 i w6.heap.size (w.heap.size + 1 + 1 + 1) 0 (-1) F tp B tw _ I7.out D7.out HIB.out).mono ?_; rintro e w8 ⟨rfl, hk8, hb8⟩; have Z8 := Aside0.mk (Z7.out.keep hk8 (by omega)); have B8 := Aside0.mk (B7.out.trans (hb8 w00.heap.size HB3.out B7.out.size)); clear hk8 hb8; have z0 := Z8.out.c 0 _ rfl; have z1 := Z8.out.c 1 _ rfl; have z2 := Z8.out.c 2 _ rfl; have z3 := Z8.out.c 3 _ rfl; have z4 := Z8.out.c 4 _ rfl; have z5 := Z8.out.c 5 _ rfl; have zf0 := Z8.out.f 0; have zf1 := Z8.out.f 1; have zf2 := Z8.out.f 2; have zf3 := Z8.out.f 3; have zf4 := Z8.out.f 4; have zf5 := Z8.out.f 5; have zlt := Z8.out.lt)
              refine bodyPost_ret (v := .agg #[.int .i64 5, .int .i64 F, .int .i64 i, .int .i64 tp, .int .i64 B, .int .i64 tw]) (by simp [results, Try.results112, go_sem, z0, z1, z2, z3, z4, z5, zf0, zf1, zf2, zf3, zf4, zf5, zlt]) rfl ⟨by rw [HV.out]; rfl, ?_⟩
              · have := HSZ00.out
                repeat (first | (with_reducible exact B8.out) | (with_reducible refine below_set ?_ (by omega)))
            ·
              have hrb : ((r : Int) == 1000) = false := by simp; omega
              have hr2 : r < 1000 := by omega
              obtain ⟨⟨ep, ea, ew⟩, hEn⟩ : ∃ z, z = enterS n p := ⟨_, rfl⟩
              have HENT := Aside0.mk hEn
              have HDJ := Aside0.mk (HNX.out (by rw [HOV.out]) hrk)
              rw [HOV.out] at HDJ
              have hsb := spotB_iff.1 (HDJ.out.spot)
              simp only at hsb
              rw [enterS_piece n p] at hsb
              have HO0 : Aside0 ((0 : Int) ≤ p.piece) := ⟨hsb.1⟩
              have HO1 : Aside0 (p.piece < (n.pieces.length : Int)) := ⟨hsb.2.1⟩
              clear hEn hrk hsb
              go_wp2_with fail
              go_quiet (fail)
              obtain ⟨w77, hw77⟩ : ∃ W, W = w7.drewN nq := ⟨_, rfl⟩
              have B7 : Aside0 (Below w00.heap.size w00 w77) := ⟨by rw [hw77]; exact below_lower B7.out (below_drewN' (Below.refl _ _) _) B7.out.size⟩
              have N7 : Aside0 (Bx w77 w.heap.size [.slice A0 n.pieces.length c0, .slice (some ad0) n.joints.length c1]) := ⟨by rw [hw77]; exact N7.out.drewN _⟩
              have Z7 : Aside0 (Bx w77 (w.heap.size + 1 + 1) [.int .i64 0, .int .i64 0, .int .i64 0, .int .i64 0, .int .i64 0, .int .i64 0]) := ⟨by rw [hw77]; exact Z7.out.drewN _⟩
              have D7 : Aside0 (Bx w77 (w.heap.size + 1 + 1 + 1) [.int .i64 0, .int .i64 F, .int .i64 (-1), .int .i64 tp, .int .i64 B, .int .i64 tw]) := ⟨by rw [hw77]; exact D7.out.drewN _⟩
              have I7 : Aside0 (Bx w77 w6.heap.size [.int .i64 i]) := ⟨by rw [hw77]; exact I7.out.drewN _⟩
              replace y0 : w77.cell? ad4 = some (.int .i64 p.piece) := by rw [hw77]; exact y0
              replace y1 : w77.cell? ⟨ad4.block, ad4.off + 1, none⟩ = some (.int .i64 p.side) := by rw [hw77]; exact y1
              rw [← hw77]
              clear hw77
              clear n0 n1 i0
              have n0 := N7.out.c 0 _ rfl; have n1 := N7.out.c 1 _ rfl; have i0 := I7.out.c 0 _ rfl
              go_upto_region 30 with fail
              have HS9 : Aside0 (∀ W, Below w77.heap.size w77 W → (Below w00.heap.size w00 W ∧ W.cell? ⟨w.heap.size, 0, none⟩ = some (.slice A0 n.pieces.length c0) ∧ W.cell? ⟨w.heap.size, 1, none⟩ = some (.slice (some ad0) n.joints.length c1) ∧ W.cell? ad4 = some (.int .i64 p.piece) ∧ W.cell? ⟨ad4.block, ad4.off + 1, none⟩ = some (.int .i64 p.side))) :=
                ⟨fun W hb => ⟨below_lower B7.out hb B7.out.size, (N7.out.below hb).c 0 _ rfl, (N7.out.below hb).c 1 _ rfl, pw_cell_below hb y0, pw_cell_below hb y1⟩⟩
              have HT9 : Aside0 (∀ W, Below w77.heap.size w77 W → ∀ u0 u1 u2, (Below w00.heap.size w00 (((W.setCell ⟨w.heap.size + 1 + 1 + 1, 3, none⟩ u0).setCell ⟨w.heap.size + 1 + 1 + 1, 4, none⟩ u1).setCell ⟨w.heap.size + 1 + 1 + 1, 5, none⟩ u2) ∧ (((W.setCell ⟨w.heap.size + 1 + 1 + 1, 3, none⟩ u0).setCell ⟨w.heap.size + 1 + 1 + 1, 4, none⟩ u1).setCell ⟨w.heap.size + 1 + 1 + 1, 5, none⟩ u2).cell? ⟨w.heap.size, 0, none⟩ = some (.slice A0 n.pieces.length c0) ∧ (((W.setCell ⟨w.heap.size + 1 + 1 + 1, 3, none⟩ u0).setCell ⟨w.heap.size + 1 + 1 + 1, 4, none⟩ u1).setCell ⟨w.heap.size + 1 + 1 + 1, 5, none⟩ u2).cell? ⟨w.heap.size, 1, none⟩ = some (.slice (some ad0) n.joints.length c1) ∧ (((W.setCell ⟨w.heap.size + 1 + 1 + 1, 3, none⟩ u0).setCell ⟨w.heap.size + 1 + 1 + 1, 4, none⟩ u1).setCell ⟨w.heap.size + 1 + 1 + 1, 5, none⟩ u2).cell? ad4 = some (.int .i64 p.piece) ∧ (((W.setCell ⟨w.heap.size + 1 + 1 + 1, 3, none⟩ u0).setCell ⟨w.heap.size + 1 + 1 + 1, 4, none⟩ u1).setCell ⟨w.heap.size + 1 + 1 + 1, 5, none⟩ u2).cell? ⟨ad4.block, ad4.off + 1, none⟩ = some (.int .i64 p.side))) :=
                ⟨fun W hb u0 u1 u2 => ⟨below_set (below_set (below_set (below_lower B7.out hb B7.out.size) HB3.out) HB3.out) HB3.out, ((((N7.out.below hb).far (by omega) _).far (by omega) _).far (by omega) _).c 0 _ rfl, ((((N7.out.below hb).far (by omega) _).far (by omega) _).far (by omega) _).c 1 _ rfl, cell_far (cell_far (cell_far (pw_cell_below hb y0) HAD.out) HAD.out) HAD.out, cell_far (cell_far (cell_far (pw_cell_below hb y1) HAD.out) HAD.out) HAD.out⟩⟩
              go_region_held3 (fun W => Below w00.heap.size w00 W ∧ W.cell? ⟨w.heap.size, 0, none⟩ = some (.slice A0 n.pieces.length c0) ∧ W.cell? ⟨w.heap.size, 1, none⟩ = some (.slice (some ad0) n.joints.length c1) ∧ W.cell? ad4 = some (.int .i64 p.piece) ∧ W.cell? ⟨ad4.block, ad4.off + 1, none⟩ = some (.int .i64 p.side))
                (first | assumption | exact HS9.out _ (by assumption) | exact HT9.out _ (by assumption) _ _ _ | exact HS9.out _ (Below.drew (Below.refl _ _)))
                (first | (go_at_call 141; go_split_ands; refine Calls.mono (enter_any n ((A0, c0), (some ad0, c1)) p _ (HR.out.below (by assumption)) HO0.out HO1.out) ?_; rintro e w9 ⟨rfl, b3⟩; rw [← HENT.out]; have q9 : Below w77.heap.size w77 w9 := below_more (below_drew (Below.refl _ _)) b3; have B9 := Aside0.mk (below_lower B7.out q9 B7.out.size); have N9 := Aside0.mk (N7.out.below q9); have Z9 := Aside0.mk (Z7.out.below q9); have D9 := Aside0.mk (D7.out.below q9); clear b3; have d0 := D9.out.c 0 _ rfl; have d1 := D9.out.c 1 _ rfl; have d2 := D9.out.c 2 _ rfl; have d3 := D9.out.c 3 _ rfl; have d4 := D9.out.c 4 _ rfl; have d5 := D9.out.c 5 _ rfl; have df0 := D9.out.f 0; have df1 := D9.out.f 1; have df2 := D9.out.f 2; have df3 := D9.out.f 3; have df4 := D9.out.f 4; have df5 := D9.out.f 5))
              all_goals
                try go_wp2_with fail
                go_roundw
                case rel => exact ⟨r + 1, F, E, ⟨ep, ea, ew⟩, ps', rfl, by go_num, by omega, ⟨by rw [HE.out, HF.out, HDD.out]; omega⟩, ⟨by rw [HENT.out]; exact HDJ.out⟩, ⟨by have := HB3.out; repeat (first | (with_reducible exact B9.out) | (with_reducible refine below_set ?_ (by omega)))⟩, ⟨by repeat (first | (with_reducible exact N9.out) | (with_reducible refine Bx.far ?_ (by omega) _))⟩, ⟨by repeat (first | (with_reducible exact Z9.out) | (with_reducible refine Bx.far ?_ (by omega) _))⟩, ⟨(((D9.out.set (i := 3) (by simp) _).set (i := 4) (by simp) _).set (i := 5) (by simp) _)⟩⟩
                case measure => simp only [intOf]; omega
      ·
        obtain ⟨p, hp'⟩ : ∃ p, p = je.getD (cross4 q) default := ⟨_, rfl⟩
        have HOV : Aside0 (overL n lies ⟨hp, hs⟩ = (0, p)) := ⟨by rw [HO.out, hp']; rw [if_neg (by decide), if_neg (by decide), (aJ4 rfl).1]; rfl⟩
        have HA2 := Aside0.mk (show acrossG n ⟨hp, hs⟩ = [p] ∧ howG n ⟨hp, hs⟩ = [0] from by rw [HAC.out.1, HAC.out.2, hp']; exact aJ4 rfl)
        have hr1 := HWA.out
        have hr2 := HWH.out
        rw [HA2.out.1] at hr1
        obtain ⟨A4, c4, e4, hc4, hC4⟩ := Kd.R_reads hr1
        replace hc4 : 1 ≤ c4 := hc4
        replace e4 : v1 = .slice A4 1 c4 := e4
        subst e4
        obtain ⟨ad4, rfl⟩ := C_some hC4 (by simp)
        have HAD : Aside0 (ad4.block ≠ w.heap.size + 1 + 1 + 1) := ⟨by have h1 := Kd.R_base hr1 ad4.block rfl; have h2 := D6'.out.lt; omega⟩
        obtain ⟨y0, y1⟩ := end0 hC4 rfl (by simp)
        replace y0 : w7.cell? ad4 = some (.int .i64 p.piece) := y0
        replace y1 : w7.cell? ⟨ad4.block, ad4.off + 1, none⟩ = some (.int .i64 p.side) := y1
        clear hr1 hr2 hC4 HO hp'
        by_cases hrk : r = 1000
        ·
          have HV := Aside0.mk (HFU.out (by rw [HOV.out]) hrk)
          subst hrk
          go_wp2_with (go_at_call 170; refine (stop_any 5 i w6.heap.size (w.heap.size + 1 + 1 + 1) 0 (-1) F tp B tw _ I7.out D7.out HIB.out).mono ?_; rintro e w8 ⟨rfl, hk8, hb8⟩; have Z8 := Aside0.mk (Z7.out.keep hk8 (by omega)); have B8 := Aside0.mk (B7.out.trans (hb8 w00.heap.size HB3.out B7.out.size)); clear hk8 hb8; have z0 := Z8.out.c 0 _ rfl; have z1 := Z8.out.c 1 _ rfl; have z2 := Z8.out.c 2 _ rfl; have z3 := Z8.out.c 3 _ rfl; have z4 := Z8.out.c 4 _ rfl; have z5 := Z8.out.c 5 _ rfl; have zf0 := Z8.out.f 0; have zf1 := Z8.out.f 1; have zf2 := Z8.out.f 2; have zf3 := Z8.out.f 3; have zf4 := Z8.out.f 4; have zf5 := Z8.out.f 5; have zlt := Z8.out.lt)
          refine bodyPost_ret (v := .agg #[.int .i64 5, .int .i64 F, .int .i64 i, .int .i64 tp, .int .i64 B, .int .i64 tw]) (by simp [results, Try.results112, go_sem, z0, z1, z2, z3, z4, z5, zf0, zf1, zf2, zf3, zf4, zf5, zlt]) rfl ⟨by rw [HV.out]; rfl, ?_⟩
          · have := HSZ00.out
            repeat (first | (with_reducible exact B8.out) | (with_reducible refine below_set ?_ (by omega)))
        ·
          have hrb : ((r : Int) == 1000) = false := by simp; omega
          have hr2 : r < 1000 := by omega
          obtain ⟨⟨ep, ea, ew⟩, hEn⟩ : ∃ z, z = enterS n p := ⟨_, rfl⟩
          have HENT := Aside0.mk hEn
          have HDJ := Aside0.mk (HNX.out (by rw [HOV.out]) hrk)
          rw [HOV.out] at HDJ
          have hsb := spotB_iff.1 (HDJ.out.spot)
          simp only at hsb
          rw [enterS_piece n p] at hsb
          have HO0 : Aside0 ((0 : Int) ≤ p.piece) := ⟨hsb.1⟩
          have HO1 : Aside0 (p.piece < (n.pieces.length : Int)) := ⟨hsb.2.1⟩
          clear hEn hrk hsb
          go_upto_region 30 with fail
          have HS9 : Aside0 (∀ W, Below w7.heap.size w7 W → (Below w00.heap.size w00 W ∧ W.cell? ⟨w.heap.size, 0, none⟩ = some (.slice A0 n.pieces.length c0) ∧ W.cell? ⟨w.heap.size, 1, none⟩ = some (.slice (some ad0) n.joints.length c1) ∧ W.cell? ad4 = some (.int .i64 p.piece) ∧ W.cell? ⟨ad4.block, ad4.off + 1, none⟩ = some (.int .i64 p.side))) :=
            ⟨fun W hb => ⟨below_lower B7.out hb B7.out.size, (N7.out.below hb).c 0 _ rfl, (N7.out.below hb).c 1 _ rfl, pw_cell_below hb y0, pw_cell_below hb y1⟩⟩
          have HT9 : Aside0 (∀ W, Below w7.heap.size w7 W → ∀ u0 u1 u2, (Below w00.heap.size w00 (((W.setCell ⟨w.heap.size + 1 + 1 + 1, 3, none⟩ u0).setCell ⟨w.heap.size + 1 + 1 + 1, 4, none⟩ u1).setCell ⟨w.heap.size + 1 + 1 + 1, 5, none⟩ u2) ∧ (((W.setCell ⟨w.heap.size + 1 + 1 + 1, 3, none⟩ u0).setCell ⟨w.heap.size + 1 + 1 + 1, 4, none⟩ u1).setCell ⟨w.heap.size + 1 + 1 + 1, 5, none⟩ u2).cell? ⟨w.heap.size, 0, none⟩ = some (.slice A0 n.pieces.length c0) ∧ (((W.setCell ⟨w.heap.size + 1 + 1 + 1, 3, none⟩ u0).setCell ⟨w.heap.size + 1 + 1 + 1, 4, none⟩ u1).setCell ⟨w.heap.size + 1 + 1 + 1, 5, none⟩ u2).cell? ⟨w.heap.size, 1, none⟩ = some (.slice (some ad0) n.joints.length c1) ∧ (((W.setCell ⟨w.heap.size + 1 + 1 + 1, 3, none⟩ u0).setCell ⟨w.heap.size + 1 + 1 + 1, 4, none⟩ u1).setCell ⟨w.heap.size + 1 + 1 + 1, 5, none⟩ u2).cell? ad4 = some (.int .i64 p.piece) ∧ (((W.setCell ⟨w.heap.size + 1 + 1 + 1, 3, none⟩ u0).setCell ⟨w.heap.size + 1 + 1 + 1, 4, none⟩ u1).setCell ⟨w.heap.size + 1 + 1 + 1, 5, none⟩ u2).cell? ⟨ad4.block, ad4.off + 1, none⟩ = some (.int .i64 p.side))) :=
            ⟨fun W hb u0 u1 u2 => ⟨below_set (below_set (below_set (below_lower B7.out hb B7.out.size) HB3.out) HB3.out) HB3.out, ((((N7.out.below hb).far (by omega) _).far (by omega) _).far (by omega) _).c 0 _ rfl, ((((N7.out.below hb).far (by omega) _).far (by omega) _).far (by omega) _).c 1 _ rfl, cell_far (cell_far (cell_far (pw_cell_below hb y0) HAD.out) HAD.out) HAD.out, cell_far (cell_far (cell_far (pw_cell_below hb y1) HAD.out) HAD.out) HAD.out⟩⟩
          go_region_held3 (fun W => Below w00.heap.size w00 W ∧ W.cell? ⟨w.heap.size, 0, none⟩ = some (.slice A0 n.pieces.length c0) ∧ W.cell? ⟨w.heap.size, 1, none⟩ = some (.slice (some ad0) n.joints.length c1) ∧ W.cell? ad4 = some (.int .i64 p.piece) ∧ W.cell? ⟨ad4.block, ad4.off + 1, none⟩ = some (.int .i64 p.side))
            (first | assumption | exact HS9.out _ (by assumption) | exact HT9.out _ (by assumption) _ _ _ | exact HS9.out _ (Below.drew (Below.refl _ _)))
            (first | (go_at_call 141; go_split_ands; refine Calls.mono (enter_any n ((A0, c0), (some ad0, c1)) p _ (HR.out.below (by assumption)) HO0.out HO1.out) ?_; rintro e w9 ⟨rfl, b3⟩; rw [← HENT.out]; have q9 : Below w7.heap.size w7 w9 := below_more (below_drew (Below.refl _ _)) b3; have B9 := Aside0.mk (below_lower B7.out q9 B7.out.size); have N9 := Aside0.mk (N7.out.below q9); have Z9 := Aside0.mk (Z7.out.below q9); have D9 := Aside0.mk (D7.out.below q9); clear b3; have d0 := D9.out.c 0 _ rfl; have d1 := D9.out.c 1 _ rfl; have d2 := D9.out.c 2 _ rfl; have d3 := D9.out.c 3 _ rfl; have d4 := D9.out.c 4 _ rfl; have d5 := D9.out.c 5 _ rfl; have df0 := D9.out.f 0; have df1 := D9.out.f 1; have df2 := D9.out.f 2; have df3 := D9.out.f 3; have df4 := D9.out.f 4; have df5 := D9.out.f 5))
          all_goals
            try go_wp2_with fail
            go_roundw
            case rel => exact ⟨r + 1, F, E, ⟨ep, ea, ew⟩, ps', rfl, by go_num, by omega, ⟨by rw [HE.out, HF.out, HDD.out]; omega⟩, ⟨by rw [HENT.out]; exact HDJ.out⟩, ⟨by have := HB3.out; repeat (first | (with_reducible exact B9.out) | (with_reducible refine below_set ?_ (by omega)))⟩, ⟨by repeat (first | (with_reducible exact N9.out) | (with_reducible refine Bx.far ?_ (by omega) _))⟩, ⟨by repeat (first | (with_reducible exact Z9.out) | (with_reducible refine Bx.far ?_ (by omega) _))⟩, ⟨(((D9.out.set (i := 3) (by simp) _).set (i := 4) (by simp) _).set (i := 5) (by simp) _)⟩⟩
            case measure => simp only [intOf]; omega
end
end Go.Proofs.Ytckcffjnffcjcaa
namespace Go.Proofs.Ytckcffjnffcjcaa
open Go.RowKit Go.Proofs.YtckcffjnffcjcaaW.PrintWords
set_option maxRecDepth 100000 in
set_option maxHeartbeats 4000000 in
theorem implDrive_any (n : NetT) (u : (Option Addr × Nat) × (Option Addr × Nat)) (v : Option Addr × Nat) (lies : List Int) (s : SpotT) (left : Int) (w : World) (hr : RdNet 67 w u n) (hl : Kd.C (Kd.int .i64) w v.1 lies.length lies) (hf : NetFits n) :
    Calls Try.prog 37 #[.agg #[.slice u.1.1 n.pieces.length u.1.2, .slice u.2.1 n.joints.length u.2.2], .slice v.1 lies.length v.2, .agg #[.int .i64 s.piece, .int .i64 s.at_, .int .i64 s.way], .int .i64 left] w
      fun e w' => e = .returned (drvV (driveR n lies s left)) ∧ Below w.heap.size w w' := by
  have HR := Aside0.mk hr
  have HL := Aside0.mk hl
  have HF := Aside0.mk hf
  clear hr hl hf
  obtain ⟨⟨A0, c0⟩, ⟨A1, c1⟩⟩ := u
  obtain ⟨A2, c2⟩ := v
  simp only at HL ⊢
  obtain ⟨W0, hW0, hN, hS, hZ, fb0⟩ := box3 w [.slice A0 n.pieces.length c0, .slice A1 n.joints.length c1] [.int .i64 s.piece, .int .i64 s.at_, .int .i64 s.way] [.int .i64 0, .int .i64 0, .int .i64 0, .int .i64 0, .int .i64 0, .int .i64 0] 35 38 44
  have HZ := Aside0.mk hZ
  clear hZ
  have fb := Aside0.mk fb0
  have HN := Aside0.mk hN
  have HS := Aside0.mk hS
  have HW := Aside0.mk hW0
  have hmf : ∀ (fn : Fn) (first cap : Array Value) (w : World), (Instr.makeFunc fn first cap).run Try.prog w = .ok (.func fn first cap) w := fun _ _ _ _ => rfl
  clear hW0 fb0 hN hS
  cases hg : goB n lies s left with
  | false =>
    have HV : Aside0 (driveR n lies s left = ⟨4, 0, 0, ⟨0, 0, 0⟩, []⟩) := ⟨driveR_bad hg⟩
    have HG := Aside0.mk hg
    clear hg
    go_enter Try.func37, Try.ntmps37
    go_wp2_with (go_at_call 111; rw [← HW.out]; refine (driveOk_any n ((A0, c0), (A1, c1)) (A2, c2) lies s left _ (HR.out.below fb.out) (Kd.C_below HL.out fb.out) HF.out).mono ?_; rintro e w3 ⟨rfl, hb3⟩; rw [HG.out]; have B3 := Aside0.mk (below_more fb.out hb3); have Z3 := Aside0.mk (HZ.out.below hb3); have N3 := Aside0.mk (HN.out.below hb3); have S3 := Aside0.mk (HS.out.below hb3); clear hb3; have n0 := N3.out.c 0 _ rfl; have n1 := N3.out.c 1 _ rfl; have m0 := S3.out.c 0 _ rfl; have m1 := S3.out.c 1 _ rfl; have m2 := S3.out.c 2 _ rfl; have z0 := Z3.out.c 0 _ rfl; have z1 := Z3.out.c 1 _ rfl; have z2 := Z3.out.c 2 _ rfl; have z3 := Z3.out.c 3 _ rfl; have z4 := Z3.out.c 4 _ rfl; have z5 := Z3.out.c 5 _ rfl; have zf0 := Z3.out.f 0; have zf1 := Z3.out.f 1; have zf2 := Z3.out.f 2; have zf3 := Z3.out.f 3; have zf4 := Z3.out.f 4; have zf5 := Z3.out.f 5; have zlt := Z3.out.lt)
    refine bodyPost_ret (v := .agg #[.int .i64 4, .int .i64 0, .int .i64 0, .int .i64 0, .int .i64 0, .int .i64 0]) (by simp [results, Try.results37, go_sem, z0, z1, z2, z3, z4, z5, zf0, zf1, zf2, zf3, zf4, zf5, zlt]) rfl ⟨by rw [HV.out]; rfl, ?_⟩
    repeat (first | (with_reducible exact B3.out) | (with_reducible refine below_set ?_ (show w.heap.size ≤ w.heap.size + 1 + 1 by omega)))
  | true =>
    obtain ⟨hq1, hq2, hq3, hq4, hq5⟩ := goB_is hg
    have HGD := Aside0.mk hq1
    have HLB := Aside0.mk hq2
    have HSP := Aside0.mk hq3
    have HL0 := Aside0.mk hq4
    have HL1 := Aside0.mk hq5
    have HV : Aside0 (driveR n lies s left = drv n lies 1000 s left) := ⟨driveR_good hg⟩
    have HG := Aside0.mk hg
    clear hg hq1 hq2 hq3 hq4 hq5
    obtain ⟨⟨dc, df, dj, ⟨dp, da, dw⟩, dps⟩, hd⟩ : ∃ d, d = drv n lies 1000 s left := ⟨_, rfl⟩
    have HD := Aside0.mk hd
    clear hd
    go_enter Try.func37, Try.ntmps37
    go_wp2_with (first | (go_at_call 111; rw [← HW.out]; refine (driveOk_any n ((A0, c0), (A1, c1)) (A2, c2) lies s left _ (HR.out.below fb.out) (Kd.C_below HL.out fb.out) HF.out).mono ?_; rintro e w3 ⟨rfl, hb3⟩; rw [HG.out]; have B3 := Aside0.mk (below_more fb.out hb3); have Z3 := Aside0.mk (HZ.out.below hb3); have N3 := Aside0.mk (HN.out.below hb3); have S3 := Aside0.mk (HS.out.below hb3); clear hb3; have n0 := N3.out.c 0 _ rfl; have n1 := N3.out.c 1 _ rfl; have m0 := S3.out.c 0 _ rfl; have m1 := S3.out.c 1 _ rfl; have m2 := S3.out.c 2 _ rfl) | (go_at_call 112; refine (driveNone_any n ((A0, c0), (A1, c1)) (A2, c2) lies s left w3 _ (HR.out.below B3.out) (Kd.C_below HL.out B3.out) (Below.refl _ _) HGD.out HLB.out HSP.out HL0.out HL1.out).mono ?_; rintro e w4 ⟨rfl, hb4⟩; rw [← HD.out]; simp only [drvV]; have B4 := Aside0.mk (below_more B3.out hb4); have Z4 := Aside0.mk (Z3.out.below hb4); clear hb4; have z0 := Z4.out.c 0 _ rfl; have z1 := Z4.out.c 1 _ rfl; have z2 := Z4.out.c 2 _ rfl; have z3 := Z4.out.c 3 _ rfl; have z4 := Z4.out.c 4 _ rfl; have z5 := Z4.out.c 5 _ rfl; have zf0 := Z4.out.f 0; have zf1 := Z4.out.f 1; have zf2 := Z4.out.f 2; have zf3 := Z4.out.f 3; have zf4 := Z4.out.f 4; have zf5 := Z4.out.f 5; have zlt := Z4.out.lt))
    refine bodyPost_ret (v := .agg #[.int .i64 dc, .int .i64 df, .int .i64 dj, .int .i64 dp, .int .i64 da, .int .i64 dw]) (by simp [results, Try.results37, go_sem, z0, z1, z2, z3, z4, z5, zf0, zf1, zf2, zf3, zf4, zf5, zlt]) rfl ⟨by rw [HV.out, ← HD.out]; rfl, ?_⟩
    repeat (first | (with_reducible exact B4.out) | (with_reducible refine below_set ?_ (show w.heap.size ≤ w.heap.size + 1 + 1 by omega)) | (with_reducible refine below_alloc ?_ _))
end Go.Proofs.Ytckcffjnffcjcaa
namespace Go.Proofs.Ytckcffjnffcjcaa
open Go.RowKit Go.Proofs.YtckcffjnffcjcaaW.PrintWords
def dl {κ ν : Type} [DecidableEq κ] (l : List (κ × ν)) (k : κ) : List (κ × ν) := l.filter (fun p => decide (p.1 ≠ k))
theorem dl_none {κ ν : Type} [DecidableEq κ] {l : List (κ × ν)} {k : κ} (h : ∀ p ∈ l, p.1 ≠ k) : dl l k = l := by
  unfold dl; rw [List.filter_eq_self]; intro p hp; simpa using h p hp
theorem dl_at {κ ν : Type} [DecidableEq κ] {l : List (κ × ν)} (hn : (l.map (·.1)).Nodup) {j : Nat} {k : κ} {v : ν} (h : l[j]? = some (k, v)) : dl l k = l.eraseIdx j := by
  induction l generalizing j with
  | nil => simp at h
  | cons p l ih =>
    simp only [List.map_cons, List.nodup_cons] at hn
    cases j with
    | zero =>
      simp at h; subst h
      have : dl l k = l := dl_none fun q hq e => hn.1 (by rw [← e]; exact List.mem_map.2 ⟨q, hq, rfl⟩)
      unfold dl at this ⊢
      rw [List.filter_cons, if_neg (by simp), this]; rfl
    | succ j =>
      have h2 : l[j]? = some (k, v) := by simpa using h
      have hp : p.1 ≠ k := fun e => hn.1 (by rw [e]; exact List.mem_map.2 ⟨_, List.mem_of_getElem? h2, rfl⟩)
      have := ih hn.2 h2
      unfold dl at this ⊢
      rw [List.filter_cons, if_pos (by simpa using hp), this]; rfl
theorem map_eraseIdx' {α β : Type} (f : α → β) : ∀ (l : List α) (i : Nat), (l.eraseIdx i).map f = (l.map f).eraseIdx i
  | [], _ => rfl
  | _ :: _, 0 => rfl
  | a :: l, i + 1 => by rw [List.eraseIdx_cons_succ, List.map_cons, List.map_cons, List.eraseIdx_cons_succ, map_eraseIdx' f l i]
theorem nodup_sub {α : Type} {l m : List α} (h : l.Sublist m) (hn : m.Nodup) : l.Nodup := List.Nodup.sublist h hn
section
variable {P : Program} {κ ν : Type} {K : KeyEnc P κ} {V : ν → Value} {w w1 : World} {b r : Nat} {l left : List (κ × ν)}
theorem MapOf.put (h : MapOf K V w b l) {k : Nat} {o : Obj} (hk : b ≠ k) : MapOf K V (putMap w k o) b l := h.move (putMap_other w k o hk)
theorem MapOf.len {t e : TypeId} (h : MapOf K V w b l) (ht : P.underlying t = some (.map K.t e)) (ty : TypeId) : (Builtin.len_ #[t] ty #[.map (some b)]).run P w = .ok (.int .i64 l.length) w := by
  obtain ⟨⟨es, clock, h1, h2, _⟩, _⟩ := h
  have hl : es.size = l.length := by have := congrArg List.length h2; simpa using this
  simp [Builtin.len_, run_underlying ht, MapKept.run_getObj_map h1, goInt, Result.andThen, hl]
theorem MapOf.delete [DecidableEq κ] {t e : TypeId} (h : MapOf K V w b l) (ht : P.underlying t = some (.map K.t e)) (k : κ) (ty : TypeId) :
    ∃ o, (Builtin.delete_ #[t, K.t] ty #[.map (some b), K.enc k]).run P w = .ok (.tuple #[]) (putMap w b o) ∧ MapOf K V (putMap w b o) b (dl l k) := by
  obtain ⟨es, clock, h1, h2, h3, h4, h5⟩ := h.run_find k
  have hlt := h.lt
  rcases h5 with ⟨h5, h6⟩ | ⟨j, v0, h5, h6⟩
  · refine ⟨.map es clock, ?_, ⟨⟨es, clock, ?_, by rw [dl_none h6]; exact h2, h3, h4⟩, by rw [dl_none h6]; exact h.nodup⟩⟩
    · simp [Builtin.delete_, run_underlying ht, MapKept.run_getObj_map h1, K.chk, h5, MapKept.run_setObj_map _ h1, Result.andThen, putMap]
    · unfold putMap; simp [Array.getElem?_setIfInBounds, hlt]
  · have hl : es.size = l.length := by have := congrArg List.length h2; simpa using this
    have hj : j < es.size := by rw [hl]; exact (List.getElem?_eq_some_iff.1 h6).1
    have hsub : (es.eraseIdxIfInBounds j).toList = es.toList.eraseIdx j := by
      unfold Array.eraseIdxIfInBounds
      rw [dif_pos hj]; simp
    have hd := dl_at h.nodup h6
    refine ⟨.map (es.eraseIdxIfInBounds j) clock, ?_, ⟨⟨es.eraseIdxIfInBounds j, clock, by unfold putMap; simp [Array.getElem?_setIfInBounds, hlt], ?_, fun e he => ?_, ?_⟩, ?_⟩⟩
    · simp [Builtin.delete_, run_underlying ht, MapKept.run_getObj_map h1, K.chk, h5, MapKept.run_setObj_map _ h1, Result.andThen, putMap]
    · rw [hsub, hd, map_eraseIdx', map_eraseIdx', h2]
    · rw [hsub] at he
      exact h3 e ((List.eraseIdx_sublist _ _).subset he)
    · rw [hsub]
      exact nodup_sub ((List.eraseIdx_sublist _ _).map _) h4
    · rw [hd]
      exact nodup_sub ((List.eraseIdx_sublist _ _).map _) h.nodup
structure Iter {P : Program} {κ ν : Type} (K : KeyEnc P κ) (V : ν → Value) (w : World) (b r : Nat) (l left : List (κ × ν)) : Prop where
  map : MapOf K V w b l
  out : ∃ es clock since c0 seen, w.heap[b]? = some (.map es clock) ∧ es.toList.map (fun e => (e.key, e.val)) = l.map (fun p => (K.enc p.1, V p.2)) ∧ w.heap[r]? = some (.mapIter (some b) since seen c0) ∧ since ≤ c0 ∧ c0 ≤ clock ∧
    (∀ e ∈ es.toList, e.born < since) ∧ (es.toList.map (·.born)).Nodup ∧ left = ((l.zip es.toList).filter (fun p => !seen.contains p.2.born)).map (·.1)
theorem Iter.move (h : Iter K V w b r l left) (hb : w1.heap[b]? = w.heap[b]?) (hr : w1.heap[r]? = w.heap[r]?) : Iter K V w1 b r l left := by
  obtain ⟨hm, es, clock, since, c0, seen, h1, h2, h3, h4⟩ := h
  exact ⟨hm.move hb, es, clock, since, c0, seen, hb.trans h1, h2, hr.trans h3, h4⟩
theorem Iter.ne (h : Iter K V w b r l left) : b ≠ r := by
  obtain ⟨hm, es, clock, since, c0, seen, h1, h2, h3, h4⟩ := h
  rintro rfl
  rw [h1] at h3
  cases h3
theorem Iter.ltr (h : Iter K V w b r l left) : r < w.heap.size := by
  obtain ⟨hm, es, clock, since, c0, seen, h1, h2, h3, h4⟩ := h
  exact (Array.getElem?_eq_some_iff.1 h3).1
theorem Iter.below (h : Iter K V w b r l left) (hb : Below w.heap.size w w1) : Iter K V w1 b r l left := h.move (hb.block b h.map.lt) (hb.block r h.ltr)
theorem zip_all {α β : Type} (l : List α) (es : List β) (h : es.length = l.length) : (l.zip es).map (·.1) = l := by
  rw [List.map_fst_zip (by omega)]
theorem MapOf.range {t e : TypeId} (h : MapOf K V w b l) (ht : P.underlying t = some (.map K.t e)) :
    ∃ o, (Instr.range t (.map (some b))).run P w = .ok (.pointer (some ⟨w.heap.size, 0, none⟩)) (w.alloc o) ∧ Iter K V (w.alloc o) b w.heap.size l l := by
  have hm := h
  have hlt := h.lt
  obtain ⟨⟨es, clock, h1, h2, h3, h4⟩, hn⟩ := h
  have hl : es.toList.length = l.length := by have := congrArg List.length h2; simpa using this
  refine ⟨_, run_range_map w t K.t e b es clock ht h1, hm.alloc _, es, clock, clock, clock, #[], ?_, h2, (MapKept.heap_alloc w _).1, Nat.le_refl _, Nat.le_refl _, h3, h4, ?_⟩
  · rw [heap_alloc_old w _ hlt, Array.getElem?_eq_getElem hlt, ← Array.getElem?_eq_getElem hlt]; exact h1
  · rw [show ((l.zip es.toList).filter (fun p => !(#[] : Array Nat).contains p.2.born)) = l.zip es.toList from List.filter_eq_self.2 (by simp), zip_all l es.toList hl]
theorem Iter.next (h : Iter K V w b r l left) (ty : TypeId) :
    (left = [] ∧ (Instr.next (.pointer (some ⟨r, 0, none⟩)) false ty).run P w = .ok (.tuple #[.bool false]) w) ∨
    ∃ k v left' w' o, (Instr.next (.pointer (some ⟨r, 0, none⟩)) false ty).run P w = .ok (.tuple #[.bool true, K.enc k, V v]) w' ∧ (w' = putMap w r o ∨ w' = putMap w.drew r o) ∧
      (k, v) ∈ left ∧ left'.length < left.length ∧ (∀ p, p ∈ left ↔ p = (k, v) ∨ p ∈ left') ∧ (∀ p ∈ left', p.1 ≠ k) ∧ Iter K V w' b r l left' ∧ (Instr.entry (.pointer (some ⟨r, 0, none⟩))).run P w' = .ok (.tuple #[K.enc k, V v]) w' := by
  have hne := h.ne
  have hltr := h.ltr
  have hmap := h.map
  obtain ⟨hm, es, clock, since, c0, seen, h1, h2, h3, h4, h5, h6, h7, hleft⟩ := h
  have hl : es.toList.length = l.length := by have := congrArg List.length h2; simpa using this
  rcases run_next_at w ty r b since c0 seen es clock h3 h1 h6 h4 with ⟨h0, hrun⟩ | ⟨e, he, w1, hw1, hrun⟩
  · left
    refine ⟨?_, hrun⟩
    rw [hleft]
    have hz : ∀ e ∈ es.toList, seen.contains e.born = true := fun e he => by
      have hemp : leftOf es seen = #[] := Array.eq_empty_of_size_eq_zero h0
      unfold leftOf at hemp
      have := Array.filter_eq_empty_iff.1 hemp e (by simpa using he)
      simpa using this
    rw [List.filter_eq_nil_iff.2]
    · rfl
    · intro p hp
      rw [hz p.2 (List.of_mem_zip hp).2]; simp
  · right
    have hem : e ∈ es.toList ∧ seen.contains e.born = false := by
      unfold leftOf at he
      simp only [Array.toList_filter, List.mem_filter] at he
      exact ⟨he.1, by simpa using he.2⟩
    obtain ⟨j, hj, hje⟩ := List.getElem_of_mem hem.1
    have hjl : j < l.length := by omega
    have hkv : e.key = K.enc l[j].1 ∧ e.val = V l[j].2 := by
      have := congrArg (fun z => z[j]?) h2
      simp only [List.getElem?_map, List.getElem?_eq_getElem hj, List.getElem?_eq_getElem hjl, Option.map_some, hje, Option.some.injEq, Prod.mk.injEq] at this
      exact this
    have hpair : (l[j], e) ∈ l.zip es.toList := by
      have : (l.zip es.toList)[j]? = some (l[j], e) := by
        rw [List.getElem?_zip_eq_some]
        exact ⟨List.getElem?_eq_getElem hjl, by rw [List.getElem?_eq_getElem hj, hje]⟩
      exact List.mem_of_getElem? this
    -- what has this stamp is this entry; what has this key is this pair
    have hstamp : ∀ p ∈ l.zip es.toList, p.2.born = e.born → p = (l[j], e) := by
      intro p hp hb
      obtain ⟨i, hi, hpi⟩ := List.getElem_of_mem hp
      have hi' : i < l.length ∧ i < es.toList.length := by simp at hi; omega
      have h8 : (es.toList.map (·.born))[i]? = (es.toList.map (·.born))[j]? := by
        rw [List.getElem?_map, List.getElem?_map, List.getElem?_eq_getElem hi'.2, List.getElem?_eq_getElem hj, hje]
        rw [List.getElem_zip] at hpi
        rw [← hpi] at hb
        simpa using hb
      have h9 := (List.getElem?_inj (by simpa using hi'.2) h7).1 h8
      subst h9
      rw [← hpi, List.getElem_zip, hje]
    have hkey : ∀ p ∈ l.zip es.toList, p.1.1 = l[j].1 → p = (l[j], e) := by
      intro p hp hb
      obtain ⟨i, hi, hpi⟩ := List.getElem_of_mem hp
      have hi' : i < l.length ∧ i < es.toList.length := by simp at hi; omega
      have h8 : (l.map (·.1))[i]? = (l.map (·.1))[j]? := by
        rw [List.getElem?_map, List.getElem?_map, List.getElem?_eq_getElem hi'.1, List.getElem?_eq_getElem hjl]
        rw [List.getElem_zip] at hpi
        rw [← hpi] at hb
        simpa using hb
      have h9 := (List.getElem?_inj (by simpa using hi'.1) hmap.nodup).1 h8
      subst h9
      rw [← hpi, List.getElem_zip, hje]
    have hw : w1.heap = w.heap := by rcases hw1 with rfl | rfl <;> rfl
    have hb1 : (putMap w1 r (.mapIter (some b) since (seen.push e.born) clock)).heap[b]? = some (.map es clock) := by rw [putMap_other _ _ _ hne, hw]; exact h1
    have hr1 : (putMap w1 r (.mapIter (some b) since (seen.push e.born) clock)).heap[r]? = some (.mapIter (some b) since (seen.push e.born) clock) := by
      unfold putMap; rw [hw]; simp [Array.getElem?_setIfInBounds, hltr]
    have hiter : Iter K V (putMap w1 r (.mapIter (some b) since (seen.push e.born) clock)) b r l (((l.zip es.toList).filter (fun p => !(seen.push e.born).contains p.2.born)).map (·.1)) :=
      ⟨hmap.move (hb1.trans h1.symm), es, clock, since, clock, seen.push e.born, hb1, h2, hr1, by omega, Nat.le_refl _, h6, h7, rfl⟩
    have hcont : ∀ p ∈ l.zip es.toList, (seen.push e.born).contains p.2.born = (seen.contains p.2.born || p.2.born == e.born) := fun p _ => by
      rw [Array.contains_push]
    refine ⟨l[j].1, l[j].2, ((l.zip es.toList).filter (fun p => !(seen.push e.born).contains p.2.born)).map (·.1), putMap w1 r (.mapIter (some b) since (seen.push e.born) clock), .mapIter (some b) since (seen.push e.born) clock, by rw [hrun, hkv.1, hkv.2]; rfl, ?_, ?_, ?_, ?_, ?_, hiter, ?_⟩
    · rcases hw1 with rfl | rfl
      · exact .inl rfl
      · exact .inr rfl
    · rw [hleft]
      exact List.mem_map.2 ⟨(l[j], e), List.mem_filter.2 ⟨hpair, by simp only; rw [hem.2]; rfl⟩, rfl⟩
    · rw [hleft, List.length_map, List.length_map]
      refine filter_lt (fun p : (κ × ν) × MapEntry => !seen.contains p.2.born) (fun p => !(seen.push e.born).contains p.2.born) (fun p hp => ?_) (l[j], e) (by simp only; rw [hem.2]; rfl) ?_ _ hpair
      · simp only [Array.contains_push, Bool.not_or, Bool.and_eq_true] at hp
        exact hp.1
      · simp only [Array.contains_push]; simp
    · intro p
      rw [hleft]
      simp only [List.mem_map, List.mem_filter]
      constructor
      · rintro ⟨x, ⟨hx1, hx2⟩, rfl⟩
        by_cases hb : x.2.born = e.born
        · exact .inl (by rw [hstamp x hx1 hb])
        · refine .inr ⟨x, ⟨hx1, ?_⟩, rfl⟩
          rw [hcont x hx1, Bool.not_or, hx2]
          simpa using hb
      · rintro (rfl | ⟨x, ⟨hx1, hx2⟩, rfl⟩)
        · exact ⟨(l[j], e), ⟨hpair, by simp only; rw [hem.2]; rfl⟩, rfl⟩
        · refine ⟨x, ⟨hx1, ?_⟩, rfl⟩
          rw [hcont x hx1, Bool.not_or, Bool.and_eq_true] at hx2
          exact hx2.1
    · intro p hp
      obtain ⟨x, hx, rfl⟩ := List.mem_map.1 hp
      obtain ⟨hx1, hx2⟩ := List.mem_filter.1 hx
      intro hk
      have := hkey x hx1 hk
      rw [hcont x hx1, this] at hx2
      simp at hx2
    · rw [← hkv.1, ← hkv.2]
      exact run_entry_at _ r b since seen es clock e hr1 hb1 hem.1 h7
end
end Go.Proofs.Ytckcffjnffcjcaa
