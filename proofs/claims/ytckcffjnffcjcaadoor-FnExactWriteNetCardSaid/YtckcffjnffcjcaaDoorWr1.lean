/- Contract of the reference's WriteNet. Conditions: sizes. -/
import Derived.Test.YtckcffjnffcjcaaDoorWrL
set_option linter.unusedVariables false
set_option linter.unusedSimpArgs false
namespace Go.Proofs.YtckcffjnffcjcaaDoor
open Go.RowKit Go.Proofs.YtckcffjnffcjcaaDoorW.PrintWords
theorem empty_no : (⟨#[]⟩ : ByteArray).toList.isEmpty = true := by rw [ByteArray.toList_eq]; rfl
theorem empty_is {s : ByteArray} (h : s.toList.isEmpty = true) : s = ⟨#[]⟩ := by
  refine toList_inj.1 ?_
  rw [List.isEmpty_iff.1 h]
  exact (List.isEmpty_iff.1 empty_no).symm
theorem cat_eq (a b c : ByteArray) (h : c = a ++ b) (hs : a.size + b.size ≤ 100000) : ∀ W : World, (Op.stringOp .add a b).run Tryd.prog W = .ok (.string c) W := fun W => by rw [run_string_add_sum W a b (by omega), h]
set_option maxRecDepth 100000 in
set_option maxHeartbeats 16000000 in
theorem specWrite_any (n : NetT) (u : (Option Addr × Nat) × (Option Addr × Nat)) (w : World) (hr : RdNet 56 w u n) (hf : NetFits n) :
    Calls Tryd.prog 7 #[.agg #[.slice u.1.1 n.pieces.length u.1.2, .slice u.2.1 n.joints.length u.2.2]] w
      fun e w' => e = .returned (.string (writeV n)) ∧ Below w.heap.size w w' := by
  obtain ⟨⟨A0, c0⟩, ⟨A1, c1⟩⟩ := u
  have HR := Aside0.mk hr
  have HF := Aside0.mk hf
  obtain ⟨ga, hga⟩ : ∃ g, g = netGood n := ⟨_, rfl⟩
  have HGD := Aside0.mk hga.symm
  obtain ⟨W0, hW0⟩ : ∃ W0, W0 = w.alloc (.cells #[.slice A0 n.pieces.length c0, .slice A1 n.joints.length c1] 31) := ⟨_, rfl⟩
  have FB : Aside0 (Below w.heap.size w W0) := ⟨by rw [hW0]; exact below_alloc (Below.refl _ _) _⟩
  have HN : Aside0 (Bx W0 w.heap.size [.slice A0 n.pieces.length c0, .slice A1 n.joints.length c1]) := ⟨by rw [hW0]; exact Bx.new w _ 31⟩
  have HW := Aside0.mk hW0
  clear hr hf hga hW0
  go_enter Tryd.func7, Tryd.ntmps7
  go_upto_region 1 with (fail)
  rw [← HW.out]
  have n0 := HN.out.c 0 _ rfl; have n1 := HN.out.c 1 _ rfl
  go_wp2_with fail
  (with_reducible refine Calls.mono (l1ok_any n ((A0, c0), (A1, c1)) _ (HR.out.below FB.out) HF.out) ?_)
  rintro e w2 ⟨rfl, b2⟩
  rw [HGD.out]
  have N2 := Aside0.mk (HN.out.below b2)
  have B2 := Aside0.mk (below_more FB.out b2)
  clear n0 n1 b2
  cases ga with
  | false =>
    have HV : Aside0 (writeV n = ⟨#[]⟩) := ⟨by unfold writeV; rw [HGD.out]; rfl⟩
    go_wp2_with fail
    go_ret
    exact ⟨by rw [HV.out]; rfl, B2.out⟩
  | true =>
    have hg := Good.of HGD.out
    have HG := Aside0.mk hg
    have hp100 : n.pieces.length ≤ 100 := hg.p1
    have hj120 : n.joints.length ≤ 120 := hg.j1
    clear hg
    have n0 := N2.out.c 0 _ rfl; have n1 := N2.out.c 1 _ rfl
    go_wp2_with fail
    clear n0 n1
    go_loopw [3, 16] (fun v3 v16 wr => ∃ (i : Nat) (out : ByteArray), v16 = .int .i64 (i : Int) ∧ v3 = .string out ∧ i ≤ n.pieces.length ∧ Aside0 (out = piecesW (n.pieces.take i)) ∧ Aside0 (Bx wr w.heap.size [.slice A0 n.pieces.length c0, .slice A1 n.joints.length c1]) ∧ Aside0 (Below w.heap.size w wr)) (fun _ v16 _ => n.pieces.length - (intOf v16).toNat)
    case atStart => exact ⟨0, ⟨#[]⟩, rfl, rfl, Nat.zero_le _, ⟨rfl⟩, N2, B2⟩
    case round =>
      obtain ⟨i, out, rfl, rfl, hi, HO, NO, BO⟩ := hrel
      obtain ⟨WO, hWO⟩ : ∃ WO : World, WO = wr := ⟨_, rfl⟩
      subst hWO
      by_cases hlt : i < n.pieces.length
      · have hfit := HG.out.fits hlt
        have hos := piecesW_size HG.out i hi
        rw [← HO.out] at hos
        obtain ⟨ad, ea, y0, y1, y2, y3⟩ := at_Piece (HR.out.below BO.out).1.1 i hlt
        simp only at ea
        subst ea
        have hnx := piecesW_next n.pieces i hlt
        rw [← HO.out] at hnx
        obtain ⟨⟨nm, ln, sp, br⟩, hp⟩ : ∃ p, p = n.pieces.getD i default := ⟨_, rfl⟩
        rw [← hp] at y0 y1 y2 y3 hfit hnx
        simp only at y0 y1 y2 y3
        have f1 := hfit.nm; have f2 := hfit.l0; have f3 := hfit.l1; have f4 := hfit.s0; have f5 := hfit.s1; have f6 := hfit.b0; have f7 := hfit.b1
        simp only at f1 f2 f3 f4 f5 f6 f7
        obtain ⟨l1, hl1⟩ := Int.eq_ofNat_of_zero_le f2
        obtain ⟨p1, hp1⟩ := Int.eq_ofNat_of_zero_le f4
        obtain ⟨b1, hb1⟩ := Int.eq_ofNat_of_zero_le f6
        subst hl1
        subst hp1
        subst hb1
        have z1 := decS_len (n := (l1 : Int)) (by omega) (by omega)
        have z2 := decS_len (n := (p1 : Int)) (by omega) (by omega)
        have z3 := decS_len (n := (b1 : Int)) (by omega) (by omega)
        unfold lineP at hnx
        simp only at hnx
        obtain ⟨t1, ht1⟩ : ∃ t, t = decS (l1 : Int) := ⟨_, rfl⟩
        obtain ⟨t2, ht2⟩ : ∃ t, t = decS (p1 : Int) := ⟨_, rfl⟩
        obtain ⟨t3, ht3⟩ : ∃ t, t = decS (b1 : Int) := ⟨_, rfl⟩
        rw [← ht1] at z1 hnx
        rw [← ht2] at z2 hnx
        rw [← ht3] at z3 hnx
        have D1 : Aside0 ((Value.string ⟨(decL l1).toArray⟩) = .string t1) := ⟨by rw [ht1, decL_itoa]; rfl⟩
        have D2 : Aside0 ((Value.string ⟨(decL p1).toArray⟩) = .string t2) := ⟨by rw [ht2, decL_itoa]; rfl⟩
        have D3 : Aside0 ((Value.string ⟨(decL b1).toArray⟩) = .string t3) := ⟨by rw [ht3, decL_itoa]; rfl⟩
        obtain ⟨s1, hs1⟩ : ∃ s, s = (⟨#[112, 105, 101, 99, 101, 32]⟩ : ByteArray) ++ nm := ⟨_, rfl⟩
        obtain ⟨s2, hs2⟩ : ∃ s, s = s1 ++ (⟨#[32]⟩ : ByteArray) := ⟨_, rfl⟩
        obtain ⟨s3, hs3⟩ : ∃ s, s = s2 ++ t1 := ⟨_, rfl⟩
        obtain ⟨s4, hs4⟩ : ∃ s, s = s3 ++ (⟨#[32, 115, 112, 101, 101, 100, 32]⟩ : ByteArray) := ⟨_, rfl⟩
        obtain ⟨s5, hs5⟩ : ∃ s, s = s4 ++ t2 := ⟨_, rfl⟩
        obtain ⟨s6, hs6⟩ : ∃ s, s = s5 ++ (⟨#[32, 98, 114, 97, 107, 101, 32]⟩ : ByteArray) := ⟨_, rfl⟩
        obtain ⟨s7, hs7⟩ : ∃ s, s = s6 ++ t3 := ⟨_, rfl⟩
        obtain ⟨s8, hs8⟩ : ∃ s, s = s7 ++ (⟨#[10]⟩ : ByteArray) := ⟨_, rfl⟩
        obtain ⟨s9, hs9⟩ : ∃ s, s = out ++ s8 := ⟨_, rfl⟩
        rw [← hs1, ← hs2, ← hs3, ← hs4, ← hs5, ← hs6, ← hs7, ← hs8, ← hs9] at hnx
        have HNX := Aside0.mk hnx
        have q1 : s1.size = 6 + nm.size := by rw [hs1, app_size]; rfl
        have q2 : s2.size = s1.size + 1 := by rw [hs2, app_size]; rfl
        have q3 : s3.size = s2.size + t1.size := by rw [hs3, app_size]
        have q4 : s4.size = s3.size + 7 := by rw [hs4, app_size]; rfl
        have q5 : s5.size = s4.size + t2.size := by rw [hs5, app_size]
        have q6 : s6.size = s5.size + 7 := by rw [hs6, app_size]; rfl
        have q7 : s7.size = s6.size + t3.size := by rw [hs7, app_size]
        have q8 : s8.size = s7.size + 1 := by rw [hs8, app_size]; rfl
        have k1 := cat_eq _ _ _ hs1 (by show 6 + nm.size ≤ 100000; omega)
        have k2 := cat_eq _ _ _ hs2 (by show s1.size + 1 ≤ 100000; omega)
        have k3 := cat_eq _ _ _ hs3 (by omega)
        have k4 := cat_eq _ _ _ hs4 (by show s3.size + 7 ≤ 100000; omega)
        have k5 := cat_eq _ _ _ hs5 (by omega)
        have k6 := cat_eq _ _ _ hs6 (by show s5.size + 7 ≤ 100000; omega)
        have k7 := cat_eq _ _ _ hs7 (by omega)
        have k8 := cat_eq _ _ _ hs8 (by show s7.size + 1 ≤ 100000; omega)
        have k9 := cat_eq _ _ _ hs9 (by omega)
        have HL1 := Aside0.mk (show l1 ≤ 1000000000 ∧ p1 ≤ 1000000000 ∧ b1 ≤ 1000000000 by omega)
        obtain ⟨W6, hW6⟩ : ∃ W6, W6 = WO.alloc (.cells #[.string nm, .int .i64 (l1 : Int), .int .i64 (p1 : Int), .int .i64 (b1 : Int)] 49) := ⟨_, rfl⟩
        have b6 : Below WO.heap.size WO W6 := by rw [hW6]; exact below_alloc (Below.refl _ _) _
        have X6 : Aside0 (Bx W6 WO.heap.size [.string nm, .int .i64 (l1 : Int), .int .i64 (p1 : Int), .int .i64 (b1 : Int)]) := ⟨by rw [hW6]; exact Bx.new WO _ 49⟩
        have N6 := Aside0.mk (NO.out.below b6)
        have B6 := Aside0.mk (below_more BO.out b6)
        have HW6 := Aside0.mk hW6
        have hi0 : (0 : Int) ≤ (i : Int) := by omega
        have hi1 : (i : Int) < (n.pieces.length : Int) := by omega
        have n0 := NO.out.c 0 _ rfl
        clear hW6 b6 hp hfit hnx hos f1 f2 f3 f4 f5 f6 f7 z1 z2 z3 ht1 ht2 ht3 hs1 hs2 hs3 hs4 hs5 hs6 hs7 hs8 hs9 q1 q2 q3 q4 q5 q6 q7 q8
        go_upto_region 7 with (fail)
        rw [← HW6.out]
        clear y0 y1 y2 y3 n0
        have HS0 : Aside0 (∀ W, Below W6.heap.size W6 W → (Below W6.heap.size W6 W ∧ W.cell? ⟨WO.heap.size, 0, none⟩ = some (.string nm) ∧ W.cell? ⟨WO.heap.size, 1, none⟩ = some (.int .i64 (l1 : Int)) ∧ W.cell? ⟨WO.heap.size, 2, none⟩ = some (.int .i64 (p1 : Int)) ∧ W.cell? ⟨WO.heap.size, 3, none⟩ = some (.int .i64 (b1 : Int)))) := ⟨fun W hb => ⟨hb, (X6.out.below hb).c 0 _ rfl, (X6.out.below hb).c 1 _ rfl, (X6.out.below hb).c 2 _ rfl, (X6.out.below hb).c 3 _ rfl⟩⟩
        go_region_held3 (fun W => Below W6.heap.size W6 W ∧ W.cell? ⟨WO.heap.size, 0, none⟩ = some (.string nm) ∧ W.cell? ⟨WO.heap.size, 1, none⟩ = some (.int .i64 (l1 : Int)) ∧ W.cell? ⟨WO.heap.size, 2, none⟩ = some (.int .i64 (p1 : Int)) ∧ W.cell? ⟨WO.heap.size, 3, none⟩ = some (.int .i64 (b1 : Int)))
          (first | (with_reducible assumption) | (with_reducible exact HS0.out _ (by with_reducible assumption)) | (with_reducible exact HS0.out _ (Below.drew (Below.refl _ _))))
          (first
            | (go_at_call 22; go_split_ands; (with_reducible refine Calls.mono (dec_any l1 _ HL1.out.1) ?_); rintro e q1 ⟨rfl, b3⟩; rw [D1.out]; have hq1 : Below W6.heap.size W6 q1 := below_more (by with_reducible assumption) b3; have HQ1 := Aside0.mk hq1; clear b3)
            | (go_at_call 22; go_split_ands; (with_reducible refine Calls.mono (dec_any p1 _ HL1.out.2.1) ?_); rintro e q2 ⟨rfl, b3⟩; rw [D2.out]; have hq2 : Below W6.heap.size W6 q2 := below_more (by with_reducible assumption) b3; have HQ2 := Aside0.mk hq2; clear b3)
            | (go_at_call 22; go_split_ands; (with_reducible refine Calls.mono (dec_any b1 _ HL1.out.2.2) ?_); rintro e q3 ⟨rfl, b3⟩; rw [D3.out]; have hq3 : Below W6.heap.size W6 q3 := below_more (by with_reducible assumption) b3; have HQ3 := Aside0.mk hq3; clear b3))
        all_goals
          try go_wp2_with fail
          go_roundw
          case rel => exact ⟨i + 1, s9, by go_num, rfl, by omega, ⟨HNX.out.symm⟩, ⟨N6.out.below (by with_reducible assumption)⟩, ⟨below_more B6.out (by with_reducible assumption)⟩⟩
          case measure => simp [intOf]; omega
      · have hie : i = n.pieces.length := by omega
        have hge : ¬ (i : Int) < (n.pieces.length : Int) := by omega
        have HOA : Aside0 (out = jointsW n (n.joints.take 0)) := ⟨by rw [HO.out, hie, List.take_length]; rfl⟩
        have n1 := NO.out.c 1 _ rfl
        clear hie hi
        go_wp2_with fail
        clear n1 hge hlt
        go_loopw [3, 45] (fun v3 v45 wr => ∃ (i : Nat) (out : ByteArray), v45 = .int .i64 (i : Int) ∧ v3 = .string out ∧ i ≤ n.joints.length ∧ Aside0 (out = jointsW n (n.joints.take i)) ∧ Aside0 (Bx wr w.heap.size [.slice A0 n.pieces.length c0, .slice A1 n.joints.length c1]) ∧ Aside0 (Below w.heap.size w wr)) (fun _ v45 _ => n.joints.length - (intOf v45).toNat)
        case atStart => exact ⟨0, out, rfl, rfl, Nat.zero_le _, HOA, NO, BO⟩
        case round =>
          obtain ⟨a, oj, rfl, rfl, ha, HJ, NJ, BJ⟩ := hrel
          obtain ⟨WJ, hWJ⟩ : ∃ WJ : World, WJ = wr := ⟨_, rfl⟩
          subst hWJ
          by_cases hla : a < n.joints.length
          · have hos := jointsW_size HG.out a ha
            rw [← HJ.out] at hos
            have hnx := jointsW_next n n.joints a hla
            rw [← HJ.out] at hnx
            obtain ⟨hk1, hk2, hk3, hk4⟩ := HG.out.kindAt hla
            have hjn := HG.out.jname hla
            obtain ⟨adj, A2, c2, ej, j0, j1, j2, m0, g0⟩ := at_Joint (HR.out.below BJ.out).2.1 a hla
            simp only at ej
            subst ej
            obtain ⟨⟨kd, jn, es⟩, hj⟩ : ∃ j, j = n.joints.getD a default := ⟨_, rfl⟩
            rw [← hj] at j0 j1 j2 m0 g0 hk1 hk2 hk3 hk4 hjn hnx
            simp only at j0 j1 j2 m0 g0 hk1 hk2 hk3 hk4 hjn
            obtain ⟨kn, hkn⟩ := Int.eq_ofNat_of_zero_le (show 0 ≤ kd by omega)
            subst hkn
            have hkn1 : kn < 5 := by omega
            have HEB := Aside0.mk hk4
            have HCE := Aside0.mk g0
            have hes5 : es.length ≤ 4 := by omega
            obtain ⟨ks, hks⟩ : ∃ s, s = kindS (kn : Int) := ⟨_, rfl⟩
            have hksz : ks.size ≤ 6 := by rw [hks]; exact kindS_size _
            obtain ⟨o1, ho1⟩ : ∃ s, s = oj ++ ks := ⟨_, rfl⟩
            obtain ⟨nj, hnj⟩ : ∃ s, s = (⟨#[32]⟩ : ByteArray) ++ jn := ⟨_, rfl⟩
            obtain ⟨o2, ho2⟩ : ∃ s, s = o1 ++ nj := ⟨_, rfl⟩
            obtain ⟨oh, hoh⟩ : ∃ s, s = headJ oj ⟨(kn : Int), jn, es⟩ := ⟨_, rfl⟩
            have hohs : oh.size ≤ oj.size + 27 := by rw [hoh]; exact headJ_size hjn
            have q1 : o1.size = oj.size + ks.size := by rw [ho1, app_size]
            have q2 : nj.size = 1 + jn.size := by rw [hnj, app_size]; rfl
            have k1 := cat_eq _ _ _ ho1 (by omega)
            have k2 := cat_eq _ _ _ hnj (by show 1 + jn.size ≤ 100000; omega)
            have k3 := cat_eq _ _ _ ho2 (by omega)
            have HOH : Aside0 (oh = if jn = ⟨#[]⟩ then o1 else o2) := ⟨by rw [hoh]; unfold headJ nameS; simp only; rw [ho2, hnj, ho1, hks]⟩
            have HOS := Aside0.mk (show oh.size ≤ 30000 by omega)
            have HNX : Aside0 (jointsW n (n.joints.take (a + 1)) = endsJ n oh es ++ ⟨#[10]⟩) := ⟨by rw [hnx]; unfold jointW; rw [← hoh]⟩
            obtain ⟨W11, hW11⟩ : ∃ W11, W11 = WJ.alloc (.cells #[.int .i64 (kn : Int), .string jn, .slice A2 es.length c2] 53) := ⟨_, rfl⟩
            have b11 : Below WJ.heap.size WJ W11 := by rw [hW11]; exact below_alloc (Below.refl _ _) _
            have X11 : Aside0 (Bx W11 WJ.heap.size [.int .i64 (kn : Int), .string jn, .slice A2 es.length c2]) := ⟨by rw [hW11]; exact Bx.new WJ _ 53⟩
            have HW11 := Aside0.mk hW11
            obtain ⟨W12, hW12⟩ : ∃ W12, W12 = W11.alloc (.cells #[.string ⟨#[]⟩, .string ⟨#[101, 110, 100]⟩, .string ⟨#[106, 111, 105, 110]⟩, .string ⟨#[115, 119, 105, 116, 99, 104]⟩, .string ⟨#[99, 114, 111, 115, 115]⟩] 9) := ⟨_, rfl⟩
            have b12 : Below W11.heap.size W11 W12 := by rw [hW12]; exact below_alloc (Below.refl _ _) _
            have Y12 : Bx W12 W11.heap.size [.string ⟨#[]⟩, .string ⟨#[101, 110, 100]⟩, .string ⟨#[106, 111, 105, 110]⟩, .string ⟨#[115, 119, 105, 116, 99, 104]⟩, .string ⟨#[99, 114, 111, 115, 115]⟩] := by rw [hW12]; exact Bx.new W11 _ 9
            have hkc : W12.cell? ⟨W11.heap.size, kn, none⟩ = some (.string ks) := by
              rw [hks]
              rcases (by omega : kn = 1 ∨ kn = 2 ∨ kn = 3 ∨ kn = 4) with h | h | h | h <;> subst h
              · exact Y12.c 1 _ rfl
              · exact Y12.c 2 _ rfl
              · exact Y12.c 3 _ rfl
              · exact Y12.c 4 _ rfl
            rw [hW12] at hkc
            have hkc2 : ((W11.alloc (.cells #[.string ⟨#[]⟩, .string ⟨#[101, 110, 100]⟩, .string ⟨#[106, 111, 105, 110]⟩, .string ⟨#[115, 119, 105, 116, 99, 104]⟩, .string ⟨#[99, 114, 111, 115, 115]⟩] 9))).cell? ((⟨W11.heap.size, 0, none⟩ : Addr).add kn) = some (.string ks) := by
              have e : (⟨W11.heap.size, 0, none⟩ : Addr).add kn = ⟨W11.heap.size, kn, none⟩ := by
                unfold Addr.add
                split
                · rename_i h; rw [h]
                · simp
              rw [e]; exact hkc
            have X12 := Aside0.mk (X11.out.below b12)
            have N12 := Aside0.mk ((NJ.out.below b11).below b12)
            have B12 := Aside0.mk (below_more (below_more BJ.out b11) b12)
            have Q12 := Aside0.mk (below_more b11 b12)
            have HW12 := Aside0.mk hW12
            have n1 := NJ.out.c 1 _ rfl
            have ha0 : (0 : Int) ≤ (a : Int) := by omega
            have ha1 : (a : Int) < (n.joints.length : Int) := by omega
            have hk0 : (0 : Int) ≤ (kn : Int) := by omega
            have hk5 : (kn : Int) < 5 := by omega
            clear hW11 hW12 b11 b12 Y12 hj hnx hos hk1 hk2 hk3 hk4 hjn m0 g0 hks hksz ho1 hnj ho2 hoh hohs q1 q2
            go_upto_region 12 with (fail)
            rw [← HW11.out]
            clear j0 j1 j2 n1
            have x0 := X12.out.c 0 _ rfl
            rw [HW12.out] at x0
            go_upto_region 13 with (fail)
            rw [← HW12.out]
            clear x0 hkc hkc2 hk0 hk5
            have x1 := X12.out.c 1 _ rfl
            go_upto_if 58 with (fail)
            go_cut [3] (fun s W => s = .string oh ∧ Aside0 (W = W12))
            case first =>
              cases hem : jn.toList.isEmpty with
              | true =>
                have he : jn = ⟨#[]⟩ := empty_is hem
                have HO1 : Aside0 (oh = o1) := ⟨by rw [HOH.out, if_pos he]⟩
                clear he
                go_wp2_with fail
                go_meet
                case rel => exact ⟨by rw [HO1.out], ⟨rfl⟩⟩
              | false =>
                have he : ¬ jn = ⟨#[]⟩ := fun h => by rw [h, empty_no] at hem; cases hem
                have HO1 : Aside0 (oh = o2) := ⟨by rw [HOH.out, if_neg he]⟩
                clear he
                go_wp2_with fail
                go_meet
                case rel => exact ⟨by rw [HO1.out], ⟨rfl⟩⟩
            case rest =>
            obtain ⟨rfl, hWX⟩ := hcut
            have hWX2 := hWX.out.symm
            subst hWX2
            clear hWX k1 k2 k3 x1
            have x2 := X12.out.c 2 _ rfl
            go_wp2_with fail
            clear x2
            go_loopw [3, 67] (fun v3 v67 wr => ∃ (q : Nat) (oe : ByteArray), v67 = .int .i64 (q : Int) ∧ v3 = .string oe ∧ q ≤ es.length ∧ Aside0 (oe = endsJ n oh (es.take q)) ∧ Aside0 (Below W12.heap.size W12 wr)) (fun _ v67 _ => es.length - (intOf v67).toNat)
            case atStart => exact ⟨0, oh, rfl, rfl, Nat.zero_le _, ⟨rfl⟩, ⟨Below.refl _ _⟩⟩
            case round =>
              obtain ⟨q, oe, rfl, rfl, hq, HE, BE⟩ := hrel
              obtain ⟨WE, hWE⟩ : ∃ WE : World, WE = wr := ⟨_, rfl⟩
              subst hWE
              by_cases hlq : q < es.length
              · have hos := endsJ_size HG.out oh es HEB.out q hq
                rw [← HE.out] at hos
                have hnx := endsJ_next n oh es q hlq
                rw [← HE.out] at hnx
                have hee := HEB.out q hlq
                have BW := Aside0.mk (below_more Q12.out BE.out)
                obtain ⟨ade, ee, y0, y1⟩ := at_End (Kd.C_below HCE.out BW.out) q hlq
                subst ee
                obtain ⟨⟨ep, sd⟩, he⟩ : ∃ e, e = es.getD q default := ⟨_, rfl⟩
                rw [← he] at y0 y1 hee hnx
                simp only at y0 y1
                have hb := endB_iff.1 hee
                simp only at hb
                obtain ⟨pn, hpn⟩ := Int.eq_ofNat_of_zero_le hb.1
                obtain ⟨sn, hsn⟩ := Int.eq_ofNat_of_zero_le hb.2.2.1
                subst hpn
                subst hsn
                have hpl : pn < n.pieces.length := by omega
                have hfit := (HG.out.fits hpl).nm
                have BWW := Aside0.mk (below_more B12.out BE.out)
                obtain ⟨ad0, ea, z0, _, _, _⟩ := at_Piece (HR.out.below BWW.out).1.1 pn hpl
                simp only at ea
                subst ea
                unfold endS at hnx
                simp only [Int.toNat_natCast] at hnx
                obtain ⟨nm, hnm⟩ : ∃ s, s = (n.pieces.getD pn default).name := ⟨_, rfl⟩
                rw [← hnm] at z0 hfit hnx
                have hts := decS_len (n := (sn : Int)) (by omega) (by omega)
                obtain ⟨ts, hts1⟩ : ∃ t, t = decS (sn : Int) := ⟨_, rfl⟩
                rw [← hts1] at hts hnx
                have D1 : Aside0 ((Value.string ⟨(decL sn).toArray⟩) = .string ts) := ⟨by rw [hts1, decL_itoa]; rfl⟩
                obtain ⟨s1, hs1⟩ : ∃ s, s = (⟨#[32]⟩ : ByteArray) ++ nm := ⟨_, rfl⟩
                obtain ⟨s2, hs2⟩ : ∃ s, s = s1 ++ (⟨#[46]⟩ : ByteArray) := ⟨_, rfl⟩
                obtain ⟨s3, hs3⟩ : ∃ s, s = s2 ++ ts := ⟨_, rfl⟩
                obtain ⟨s4, hs4⟩ : ∃ s, s = oe ++ s3 := ⟨_, rfl⟩
                rw [← hs1, ← hs2, ← hs3, ← hs4] at hnx
                have HNE := Aside0.mk hnx
                have hoh := HOS.out
                have q1 : s1.size = 1 + nm.size := by rw [hs1, app_size]; rfl
                have q2 : s2.size = s1.size + 1 := by rw [hs2, app_size]; rfl
                have q3 : s3.size = s2.size + ts.size := by rw [hs3, app_size]
                have k1 := cat_eq _ _ _ hs1 (by show 1 + nm.size ≤ 100000; omega)
                have k2 := cat_eq _ _ _ hs2 (by show s1.size + 1 ≤ 100000; omega)
                have k3 := cat_eq _ _ _ hs3 (by omega)
                have k4 := cat_eq _ _ _ hs4 (by omega)
                have HSN := Aside0.mk (show sn ≤ 1000000000 by omega)
                obtain ⟨W17, hW17⟩ : ∃ W17, W17 = WE.alloc (.cells #[.int .i64 (pn : Int), .int .i64 (sn : Int)] 56) := ⟨_, rfl⟩
                have b17 : Below WE.heap.size WE W17 := by rw [hW17]; exact below_alloc (Below.refl _ _) _
                have X17 : Aside0 (Bx W17 WE.heap.size [.int .i64 (pn : Int), .int .i64 (sn : Int)]) := ⟨by rw [hW17]; exact Bx.new WE _ 56⟩
                have N17 := Aside0.mk ((N12.out.below BE.out).below b17)
                have BE17 := Aside0.mk (below_more BE.out b17)
                have Z0 := Aside0.mk (pw_cell_below b17 z0)
                have HW17 := Aside0.mk hW17
                have hq0 : (0 : Int) ≤ (q : Int) := by omega
                have hq1 : (q : Int) < (es.length : Int) := by omega
                have hp0 : (0 : Int) ≤ (pn : Int) := by omega
                have hp1 : (pn : Int) < (n.pieces.length : Int) := by omega
                clear hW17 b17 he hee hb hfit hnx hos hts hts1 hnm hs1 hs2 hs3 hs4 q1 q2 q3 hoh z0 hpl
                go_upto_region 18 with (fail)
                rw [← HW17.out]
                clear y0 y1 hq0 hq1
                have HS0 : Aside0 (∀ W, Below W17.heap.size W17 W → (Below W17.heap.size W17 W ∧ W.cell? ⟨w.heap.size, 0, none⟩ = some (.slice (some ad0) n.pieces.length c0) ∧ W.cell? ⟨WE.heap.size, 0, none⟩ = some (.int .i64 (pn : Int)) ∧ W.cell? ⟨WE.heap.size, 1, none⟩ = some (.int .i64 (sn : Int)) ∧ W.cell? (ad0.add (pn * 4)) = some (.string nm))) := ⟨fun W hb => ⟨hb, (N17.out.below hb).c 0 _ rfl, (X17.out.below hb).c 0 _ rfl, (X17.out.below hb).c 1 _ rfl, pw_cell_below hb Z0.out⟩⟩
                go_region_held3 (fun W => Below W17.heap.size W17 W ∧ W.cell? ⟨w.heap.size, 0, none⟩ = some (.slice (some ad0) n.pieces.length c0) ∧ W.cell? ⟨WE.heap.size, 0, none⟩ = some (.int .i64 (pn : Int)) ∧ W.cell? ⟨WE.heap.size, 1, none⟩ = some (.int .i64 (sn : Int)) ∧ W.cell? (ad0.add (pn * 4)) = some (.string nm))
                  (first | (with_reducible assumption) | (with_reducible exact HS0.out _ (by with_reducible assumption)) | (with_reducible exact HS0.out _ (Below.drew (Below.refl _ _))))
                  (first
                    | (go_at_call 22; go_split_ands; (with_reducible refine Calls.mono (dec_any sn _ HSN.out) ?_); rintro e q1 ⟨rfl, b3⟩; rw [D1.out]; have hq1 : Below W17.heap.size W17 q1 := below_more (by with_reducible assumption) b3; clear b3))
                all_goals
                  try go_wp2_with fail
                  go_roundw
                  case rel => exact ⟨q + 1, s4, by go_num, rfl, by omega, ⟨HNE.out.symm⟩, ⟨below_more BE17.out (by with_reducible assumption)⟩⟩
                  case measure => simp [intOf]; omega
              · have hqe : q = es.length := by omega
                have hge : ¬ (q : Int) < (es.length : Int) := by omega
                have hos := endsJ_size HG.out oh es HEB.out q hq
                rw [← HE.out] at hos
                have hoh := HOS.out
                obtain ⟨o3, ho3⟩ : ∃ s, s = oe ++ (⟨#[10]⟩ : ByteArray) := ⟨_, rfl⟩
                have k1 := cat_eq _ _ _ ho3 (by show oe.size + 1 ≤ 100000; omega)
                have HO3 : Aside0 (o3 = jointsW n (n.joints.take (a + 1))) := ⟨by rw [HNX.out, ho3, HE.out, hqe, List.take_length]⟩
                clear hqe hos hoh ho3
                go_wp2_with fail
                go_roundw
                case rel => exact ⟨a + 1, o3, by go_num, rfl, by omega, HO3, ⟨N12.out.below BE.out⟩, ⟨below_more B12.out BE.out⟩⟩
                case measure => simp [intOf]; omega
          · have hge : ¬ (a : Int) < (n.joints.length : Int) := by omega
            have HV : Aside0 (writeV n = oj) := ⟨by unfold writeV; rw [HGD.out, if_pos rfl, HJ.out, show a = n.joints.length by omega, List.take_length]⟩
            go_wp2_with fail
            go_ret
            exact ⟨by rw [HV.out]; rfl, BJ.out⟩
end Go.Proofs.YtckcffjnffcjcaaDoor
