/- Texts of this work, of each what the claim leans on: WFnShortest. No conditions. -/
import Derived.Test.YtckcffjnffcjcaaVSh14
import Derived.Deep.RegionHeld3
set_option linter.unusedVariables false
set_option linter.unusedSimpArgs false
namespace Go.Proofs.Ytckcffjnffcjcaa
open Go.RowKit Go.Proofs.YtckcffjnffcjcaaW.PrintWords
theorem wrap8s {x : Int} (h0 : 0 ≤ x) (h1 : x ≤ 255) : IntKind.u8.wrap x = x := by
  unfold IntKind.wrap
  simp [IntKind.bits, IntKind.signed]
  omega
theorem C_u8s3 (W : World) (x y z : Int) : Kd.C (Kd.int .u8) (W.alloc (.cells #[.int .u8 x, .int .u8 y, .int .u8 z] 5)) (some ⟨W.heap.size, 0, none⟩) 3 [x, y, z] := by
  refine ⟨rfl, by omega, fun _ => ⟨_, rfl, fun j p hj => ?_⟩⟩
  have hx := Bx.new W [.int .u8 x, .int .u8 y, .int .u8 z] 5
  have hj2 : j < 3 := by
    have := (List.getElem?_eq_some_iff.1 hj).1
    simpa using this
  rcases (by omega : j = 0 ∨ j = 1 ∨ j = 2) with rfl | rfl | rfl
  · injection hj with hj; subst hj; exact ⟨[.int .u8 x], rfl, rfl, fun i v hv => by
      have hi : i = 0 := by have := (List.getElem?_eq_some_iff.1 hv).1; simpa using this
      subst hi; injection hv with hv; subst hv; exact hx.c 0 _ rfl⟩
  · injection hj with hj; subst hj; exact ⟨[.int .u8 y], rfl, rfl, fun i v hv => by
      have hi : i = 0 := by have := (List.getElem?_eq_some_iff.1 hv).1; simpa using this
      subst hi; injection hv with hv; subst hv; exact hx.c 1 _ rfl⟩
  · injection hj with hj; subst hj; exact ⟨[.int .u8 z], rfl, rfl, fun i v hv => by
      have hi : i = 0 := by have := (List.getElem?_eq_some_iff.1 hv).1; simpa using this
      subst hi; injection hv with hv; subst hv; exact hx.c 2 _ rfl⟩
theorem turnV_ok {n : NetT} {s : SpotT} (hgd : netGood n = true) (hs : spotB n s = true) : turnV n s = turnS s ∧ spotB n (turnS s) = true := by
  have h1 : spotOkB n s = true := by unfold spotOkB; rw [hgd, hs]; rfl
  refine ⟨by unfold turnV; rw [if_pos h1], ?_⟩
  have := spotB_iff.1 hs
  rw [spotB_iff]; unfold turnS; simp only; omega
theorem shortestV_ok {n : NetT} {a b : SpotT} (hgd : netGood n = true) (ha : spotB n a = true) (hb : spotB n b = true) : shortestV n a b = shortV n a b := by
  unfold shortestV spotOkB; rw [hgd, ha, hb]; rfl
set_option maxRecDepth 100000 in
set_option maxHeartbeats 64000000 in
theorem FnShortest_walk (u0 : Option Addr × Nat) (code : List Int) (u1 : Option Addr × Nat) (more : List Int) (w : World) (e0 : Kd.C (Kd.int .u8) w u0.1 code.length code ∧ code.length ≤ u0.2) (g0 : code.length ≤ 9223372036854775807 ∧ ∀ y ∈ code, 0 ≤ y ∧ y ≤ 255) (e1 : Kd.C (Kd.int .u8) w u1.1 more.length more ∧ more.length ≤ u1.2) (g1 : more.length ≤ 9223372036854775807 ∧ ∀ y ∈ more, 0 ≤ y ∧ y ≤ 255) :
    Calls Try.prog 21 #[.slice u0.1 code.length u0.2, .slice u1.1 more.length u1.2] w fun e w' => e = .returned (.bool true) ∧ Below w.heap.size w w' := by
  have hm0 := g0.1
  have hm1 := g1.1
  have hg0 : GCode code := g0.2
  have hg1 : GCode more := g1.2
  have HC := Aside0.mk e0.1
  have HM := Aside0.mk e1.1
  obtain ⟨A0, c0⟩ := u0
  obtain ⟨A1, c1⟩ := u1
  simp only at HC HM ⊢
  clear e0 e1 g0 g1
  by_cases hl0 : (1048576 : Int) < (code.length : Int)
  · go_enter Try.func21, Try.ntmps21
    go_wp2
    go_ret
    exact ⟨rfl, Below.refl _ _⟩
  by_cases hl1 : (1048576 : Int) < (more.length : Int)
  · go_enter Try.func21, Try.ntmps21
    go_wp2
    go_ret
    exact ⟨rfl, Below.refl _ _⟩
  have hlm : more.length ≤ 1048576 := by omega
  have hlc : code.length ≤ 1048576 := by omega
  obtain ⟨n, hn⟩ : ∃ n, n = netG code := ⟨_, rfl⟩
  have hgd : netGood n = true := by rw [hn]; exact netG_good code
  have hgood := Good.of hgd
  have hfit : NetFits n := by rw [hn]; exact netG_fits code
  have hsm : Small n := by rw [hn]; exact netG_small code
  have HG := Aside0.mk hgood
  have HF := Aside0.mk hfit
  have HN := Aside0.mk hn
  have H9 := Aside0.mk hsm.1
  have hj120 := hgood.j1
  obtain ⟨⟨ap, aa, aw⟩, has⟩ : ∃ s, s = spotG n code := ⟨_, rfl⟩
  obtain ⟨⟨bp, ba, bw⟩, hbs⟩ : ∃ s, s = spotG n more := ⟨_, rfl⟩
  have hab : spotB n ⟨ap, aa, aw⟩ = true := by rw [has]; exact spotG_ok hgood code
  have hbb : spotB n ⟨bp, ba, bw⟩ = true := by rw [hbs]; exact spotG_ok hgood more
  have HAS := Aside0.mk has
  have HBS := Aside0.mk hbs
  obtain ⟨⟨pok, pf, ps, pls⟩, hp⟩ : ∃ p, p = shortV n ⟨ap, aa, aw⟩ ⟨bp, ba, bw⟩ := ⟨_, rfl⟩
  have HV : Aside0 (shortestV n ⟨ap, aa, aw⟩ ⟨bp, ba, bw⟩ = ⟨pok, pf, ps, pls⟩) := ⟨by rw [shortestV_ok hgd hab hbb, hp]⟩
  have hta := turnV_ok hgd hab
  have htb := turnV_ok hgd hbb
  obtain ⟨⟨tap, taa, taw⟩, hta1⟩ : ∃ s, s = turnV n ⟨ap, aa, aw⟩ := ⟨_, rfl⟩
  obtain ⟨⟨tbp, tba, tbw⟩, htb1⟩ : ∃ s, s = turnV n ⟨bp, ba, bw⟩ := ⟨_, rfl⟩
  have HTA : Aside0 ((Value.agg #[.int .i64 (turnV n ⟨ap, aa, aw⟩).piece, .int .i64 (turnV n ⟨ap, aa, aw⟩).at_, .int .i64 (turnV n ⟨ap, aa, aw⟩).way]) = .agg #[.int .i64 tap, .int .i64 taa, .int .i64 taw]) := ⟨by rw [← hta1]⟩
  have HTB : Aside0 ((Value.agg #[.int .i64 (turnV n ⟨bp, ba, bw⟩).piece, .int .i64 (turnV n ⟨bp, ba, bw⟩).at_, .int .i64 (turnV n ⟨bp, ba, bw⟩).way]) = .agg #[.int .i64 tbp, .int .i64 tba, .int .i64 tbw]) := ⟨by rw [← htb1]⟩
  obtain ⟨q, hq⟩ : ∃ q, q = shortestV n ⟨tbp, tba, tbw⟩ ⟨tap, taa, taw⟩ := ⟨_, rfl⟩
  have HQV := Aside0.mk hq
  have HBK : Aside0 (q.ok = pok ∧ q.far = pf) := ⟨by
    have h1 : (⟨tap, taa, taw⟩ : SpotT) = turnS ⟨ap, aa, aw⟩ := by rw [hta1]; exact hta.1
    have h2 : (⟨tbp, tba, tbw⟩ : SpotT) = turnS ⟨bp, ba, bw⟩ := by rw [htb1]; exact htb.1
    have h3 := short_turned hgood hab hbb
    rw [hq, h1, h2, shortestV_ok hgd htb.2 hta.2, h3.1, h3.2, ← hp]
    exact ⟨rfl, rfl⟩⟩
  obtain ⟨parts, hparts⟩ : ∃ l, l = stretchV n ⟨pok, pf, ps, pls⟩ ⟨ap, aa, aw⟩ := ⟨_, rfl⟩
  have HPA := Aside0.mk hparts
  have HST : Aside0 (pok = true → (0 < parts.length → partsLenV parts = pf) ∧ (parts.length = 0 → pls = [])) := ⟨fun h => by
    have h1 := short_stretch hgd hsm hab hbb (by rw [← hp]; exact h)
    rw [← hp, ← hparts] at h1
    exact ⟨h1.1, h1.2.1⟩⟩
  have HJN : Aside0 (∀ x ∈ pls, 0 ≤ x.joint ∧ x.joint < (n.joints.length : Int)) := ⟨by
    have := short_joints hgood hab (b := ⟨bp, ba, bw⟩)
    rw [← hp] at this
    exact this⟩
  have HDV : Aside0 (∀ (ls : List Int) (far : Int), (driveR n ls ⟨ap, aa, aw⟩ far).code = 0 → (driveR n ls ⟨ap, aa, aw⟩ far).spot = ⟨bp, ba, bw⟩ → pok = true ∧ pf ≤ far) := ⟨fun ls far h1 h2 => by
    have := short_drive hbb h1 h2
    rw [← hp] at this
    exact this⟩
  have HG1 := Aside0.mk hg1
  have HG0 := Aside0.mk hg0
  clear hab hbb hn hgd hgood hfit hsm has hbs hp hta htb hta1 htb1 hq hparts
  go_enter Try.func21, Try.ntmps21
  go_wp2_with fail
  refine (nets_of code A0 c0 n _ HC.out hg0 HN.out).mono ?_
  rintro e w1 ⟨u, rfl, ru, b1⟩
  have RU := Aside0.mk ru
  obtain ⟨⟨P0, d0⟩, ⟨P1, d1⟩⟩ := u
  obtain ⟨W2, hW2⟩ : ∃ W2, W2 = w1.alloc (.cells #[.slice P0 n.pieces.length d0, .slice P1 n.joints.length d1] 35) := ⟨_, rfl⟩
  have b2 : Below w1.heap.size w1 W2 := by rw [hW2]; exact below_alloc (Below.refl _ _) _
  have N2 : Aside0 (Bx W2 w1.heap.size [.slice P0 n.pieces.length d0, .slice P1 n.joints.length d1]) := ⟨by rw [hW2]; exact Bx.new w1 _ 35⟩
  replace RU := Aside0.mk (RU.out.below b2)
  replace HC := Aside0.mk (Kd.C_below (Kd.C_below HC.out b1) b2)
  replace HM := Aside0.mk (Kd.C_below (Kd.C_below HM.out b1) b2)
  have FB := Aside0.mk (below_more b1 b2)
  have HW2 := Aside0.mk hW2
  have n0 := N2.out.c 0 _ rfl; have n1 := N2.out.c 1 _ rfl
  clear ru b1 b2 hW2
  go_upto_region 4 with (fail)
  rw [← HW2.out]
  go_wp2_with fail
  refine (aspot_any n ((P0, d0), (P1, d1)) code A0 c0 _ RU.out HG.out HC.out hg0).mono ?_
  rintro e w3 ⟨rfl, b3⟩
  rw [← HAS.out]
  simp only
  obtain ⟨W4, hW4⟩ : ∃ W4, W4 = w3.alloc (.cells #[.int .i64 ap, .int .i64 aa, .int .i64 aw] 38) := ⟨_, rfl⟩
  have b4 : Below w3.heap.size w3 W4 := by rw [hW4]; exact below_alloc (Below.refl _ _) _
  have S4 : Aside0 (Bx W4 w3.heap.size [.int .i64 ap, .int .i64 aa, .int .i64 aw]) := ⟨by rw [hW4]; exact Bx.new w3 _ 38⟩
  have b34 := below_more b3 b4
  replace RU := Aside0.mk (RU.out.below b34)
  replace HC := Aside0.mk (Kd.C_below HC.out b34)
  replace HM := Aside0.mk (Kd.C_below HM.out b34)
  replace N2 := Aside0.mk (N2.out.below b34)
  replace FB := Aside0.mk (below_more FB.out b34)
  have HW4 := Aside0.mk hW4
  clear b3 b4 b34 hW4 n0 n1
  go_upto_region 5 with (fail)
  rw [← HW4.out]
  have n0 := N2.out.c 0 _ rfl; have n1 := N2.out.c 1 _ rfl
  go_wp2_with fail
  refine (aspot_any n ((P0, d0), (P1, d1)) more A1 c1 _ RU.out HG.out HM.out hg1).mono ?_
  rintro e w5 ⟨rfl, b5⟩
  rw [← HBS.out]
  simp only
  obtain ⟨W6, hW6⟩ : ∃ W6, W6 = w5.alloc (.cells #[.int .i64 bp, .int .i64 ba, .int .i64 bw] 38) := ⟨_, rfl⟩
  have b6 : Below w5.heap.size w5 W6 := by rw [hW6]; exact below_alloc (Below.refl _ _) _
  have T6 : Aside0 (Bx W6 w5.heap.size [.int .i64 bp, .int .i64 ba, .int .i64 bw]) := ⟨by rw [hW6]; exact Bx.new w5 _ 38⟩
  have b56 := below_more b5 b6
  replace RU := Aside0.mk (RU.out.below b56)
  replace HC := Aside0.mk (Kd.C_below HC.out b56)
  replace HM := Aside0.mk (Kd.C_below HM.out b56)
  replace N2 := Aside0.mk (N2.out.below b56)
  replace S4 := Aside0.mk (S4.out.below b56)
  replace FB := Aside0.mk (below_more FB.out b56)
  have HW6 := Aside0.mk hW6
  clear b5 b6 b56 hW6 n0 n1
  go_upto_region 6 with (fail)
  rw [← HW6.out]
  have n0 := N2.out.c 0 _ rfl; have n1 := N2.out.c 1 _ rfl
  have s0 := S4.out.c 0 _ rfl; have s1 := S4.out.c 1 _ rfl; have s2 := S4.out.c 2 _ rfl
  have t0 := T6.out.c 0 _ rfl; have t1 := T6.out.c 1 _ rfl; have t2 := T6.out.c 2 _ rfl
  go_wp2_with fail
  refine (implShortest_any n ((P0, d0), (P1, d1)) ⟨ap, aa, aw⟩ ⟨bp, ba, bw⟩ _ RU.out HF.out).mono ?_
  rintro e w7 ⟨sv, lv, rfl, r1, r2, b7⟩
  rw [HV.out] at r1 r2 ⊢
  simp only at r1 r2 ⊢
  obtain ⟨SA, sc, es⟩ := Kd.R_slice r1
  obtain ⟨LA, lc, el⟩ := Kd.R_slice r2
  subst es
  subst el
  obtain ⟨W8, hW8⟩ : ∃ W8, W8 = w7.alloc (.cells #[.bool pok, .int .i64 pf, .slice SA ps.length sc, .slice LA pls.length lc] 108) := ⟨_, rfl⟩
  have b8 : Below w7.heap.size w7 W8 := by rw [hW8]; exact below_alloc (Below.refl _ _) _
  have X8 : Aside0 (Bx W8 w7.heap.size [.bool pok, .int .i64 pf, .slice SA ps.length sc, .slice LA pls.length lc]) := ⟨by rw [hW8]; exact Bx.new w7 _ 108⟩
  have CS := Aside0.mk (Kd.C_below (Kd.R_reads' r1).2.2 b8)
  have CL := Aside0.mk (Kd.C_below (Kd.R_reads' r2).2.2 b8)
  have b78 := below_more b7 b8
  replace RU := Aside0.mk (RU.out.below b78)
  replace HC := Aside0.mk (Kd.C_below HC.out b78)
  replace HM := Aside0.mk (Kd.C_below HM.out b78)
  replace N2 := Aside0.mk (N2.out.below b78)
  replace S4 := Aside0.mk (S4.out.below b78)
  replace T6 := Aside0.mk (T6.out.below b78)
  replace FB := Aside0.mk (below_more FB.out b78)
  have HW8 := Aside0.mk hW8
  clear b7 b8 b78 r1 r2 hW8 n0 n1 s0 s1 s2 t0 t1 t2
  go_upto_region 7 with (fail)
  rw [← HW8.out]
  have n0 := N2.out.c 0 _ rfl; have n1 := N2.out.c 1 _ rfl
  have s0 := S4.out.c 0 _ rfl; have s1 := S4.out.c 1 _ rfl; have s2 := S4.out.c 2 _ rfl
  have t0 := T6.out.c 0 _ rfl; have t1 := T6.out.c 1 _ rfl; have t2 := T6.out.c 2 _ rfl
  go_wp2_with fail
  refine (specShortest_any n ((P0, d0), (P1, d1)) ⟨ap, aa, aw⟩ ⟨bp, ba, bw⟩ _ RU.out HF.out H9.out).mono ?_
  rintro e w9 ⟨sv, lv, rfl, r1, r2, b9⟩
  rw [HV.out] at r1 r2 ⊢
  simp only at r1 r2 ⊢
  obtain ⟨SB, sb, es⟩ := Kd.R_slice r1
  obtain ⟨LB, lb, el⟩ := Kd.R_slice r2
  subst es
  subst el
  obtain ⟨W10, hW10⟩ : ∃ W10, W10 = w9.alloc (.cells #[.bool pok, .int .i64 pf, .slice SB ps.length sb, .slice LB pls.length lb] 108) := ⟨_, rfl⟩
  have b10 : Below w9.heap.size w9 W10 := by rw [hW10]; exact below_alloc (Below.refl _ _) _
  have Y10 : Aside0 (Bx W10 w9.heap.size [.bool pok, .int .i64 pf, .slice SB ps.length sb, .slice LB pls.length lb]) := ⟨by rw [hW10]; exact Bx.new w9 _ 108⟩
  have DS := Aside0.mk (Kd.C_below (Kd.R_reads' r1).2.2 b10)
  have DL := Aside0.mk (Kd.C_below (Kd.R_reads' r2).2.2 b10)
  have b910 := below_more b9 b10
  replace RU := Aside0.mk (RU.out.below b910)
  replace HC := Aside0.mk (Kd.C_below HC.out b910)
  replace HM := Aside0.mk (Kd.C_below HM.out b910)
  replace N2 := Aside0.mk (N2.out.below b910)
  replace S4 := Aside0.mk (S4.out.below b910)
  replace T6 := Aside0.mk (T6.out.below b910)
  replace X8 := Aside0.mk (X8.out.below b910)
  replace CS := Aside0.mk (Kd.C_below CS.out b910)
  replace CL := Aside0.mk (Kd.C_below CL.out b910)
  replace FB := Aside0.mk (below_more FB.out b910)
  have HW10 := Aside0.mk hW10
  clear b9 b10 b910 r1 r2 hW10 n0 n1 s0 s1 s2 t0 t1 t2
  go_upto_region 8 with (fail)
  rw [← HW10.out]
  have x0 := X8.out.c 0 _ rfl; have x1 := X8.out.c 1 _ rfl; have x2 := X8.out.c 2 _ rfl; have x3 := X8.out.c 3 _ rfl
  have y0 := Y10.out.c 0 _ rfl; have y1 := Y10.out.c 1 _ rfl; have y2 := Y10.out.c 2 _ rfl; have y3 := Y10.out.c 3 _ rfl
  have hpsl : ps.length ≤ 9223372036854775807 := CS.out.2.1
  have hpll : pls.length ≤ 9223372036854775807 := CL.out.2.1
  have hb1 : (pok != pok) = false := by simp
  have hb2 : (pf != pf) = false := by simp
  have hb3 : ((ps.length : Int) != (ps.length : Int)) = false := by simp
  have hb4 : ((pls.length : Int) != (pls.length : Int)) = false := by simp
  go_wp2_with fail
  clear x0 x1 x3 y0 y1 y2 y3 x2 hb1 hb2 hb3 hb4
  go_loopw [77] (fun v77 wr => ∃ (i : Nat), v77 = .int .i64 (i : Int) ∧ i ≤ ps.length ∧ Aside0 (Below W10.heap.size W10 wr)) (fun v77 _ => ps.length - (intOf v77).toNat)
  case atStart => exact ⟨0, rfl, Nat.zero_le _, ⟨Below.refl _ _⟩⟩
  case round =>
    obtain ⟨i, rfl, hi, B1⟩ := hrel
    by_cases hlt : i < ps.length
    · as_aux_lemma =>
      obtain ⟨WA, hWA⟩ : ∃ WA : World, WA = wr := ⟨_, rfl⟩
      subst hWA
      obtain ⟨adI, eI, q0, q1⟩ := at_Step (Kd.C_below CS.out B1.out) i hlt
      obtain ⟨adS, eS, r0, r1⟩ := at_Step (Kd.C_below DS.out B1.out) i hlt
      subst eI
      subst eS
      obtain ⟨⟨tp, tw⟩, ht⟩ : ∃ s, s = ps.getD i default := ⟨_, rfl⟩
      rw [← ht] at q0 q1 r0 r1
      simp only at q0 q1 r0 r1
      have x2 := (X8.out.below B1.out).c 2 _ rfl
      have y2 := (Y10.out.below B1.out).c 2 _ rfl
      have hj0 : (0 : Int) ≤ (i : Int) := by omega
      have hj1 : (i : Int) < (ps.length : Int) := by omega
      clear ht
      go_upto_region 13 with (fail)
      go_cut [90] (fun s W => s = .bool false ∧ Aside0 (Below WA.heap.size WA W))
      case first =>
        go_quiet (fail)
        all_goals
          try go_wp2_with fail
          go_meet
          case rel => exact ⟨rfl, ⟨below_drewN' (Below.refl _ _) _⟩⟩
      case rest =>
      obtain ⟨rfl, BK⟩ := hcut
      go_wp2_with fail
      go_roundw
      case rel => exact ⟨i + 1, by go_num, by omega, ⟨below_more B1.out BK.out⟩⟩
      case measure => simp [intOf]; omega
    · have hge : ¬ (i : Int) < (ps.length : Int) := by omega
      obtain ⟨WA, hWA⟩ : ∃ WA : World, WA = wr := ⟨_, rfl⟩
      subst hWA
      replace RU := Aside0.mk (RU.out.below B1.out)
      replace HC := Aside0.mk (Kd.C_below HC.out B1.out)
      replace HM := Aside0.mk (Kd.C_below HM.out B1.out)
      replace N2 := Aside0.mk (N2.out.below B1.out)
      replace S4 := Aside0.mk (S4.out.below B1.out)
      replace T6 := Aside0.mk (T6.out.below B1.out)
      replace X8 := Aside0.mk (X8.out.below B1.out)
      replace CS := Aside0.mk (Kd.C_below CS.out B1.out)
      replace CL := Aside0.mk (Kd.C_below CL.out B1.out)
      replace FB := Aside0.mk (below_more FB.out B1.out)
      replace Y10 := Aside0.mk (Y10.out.below B1.out)
      replace DL := Aside0.mk (Kd.C_below DL.out B1.out)
      have x3 := X8.out.c 3 _ rfl
      clear hi
      go_wp2_with fail
      clear x3 hge
      go_loopw [95] (fun v95 wr => ∃ (i : Nat), v95 = .int .i64 (i : Int) ∧ i ≤ pls.length ∧ Aside0 (Below WA.heap.size WA wr)) (fun v95 _ => pls.length - (intOf v95).toNat)
      case atStart => exact ⟨0, rfl, Nat.zero_le _, ⟨Below.refl _ _⟩⟩
      case round =>
        obtain ⟨i2, rfl, hi2, B2⟩ := hrel
        by_cases hlt2 : i2 < pls.length
        · as_aux_lemma =>
          obtain ⟨WB, hWB⟩ : ∃ WB : World, WB = wr := ⟨_, rfl⟩
          subst hWB
          obtain ⟨adI, eI, q0, q1⟩ := at_Lie (Kd.C_below CL.out B2.out) i2 hlt2
          obtain ⟨adS, eS, r0, r1⟩ := at_Lie (Kd.C_below DL.out B2.out) i2 hlt2
          subst eI
          subst eS
          obtain ⟨⟨tp, tw⟩, ht⟩ : ∃ s, s = pls.getD i2 default := ⟨_, rfl⟩
          rw [← ht] at q0 q1 r0 r1
          simp only at q0 q1 r0 r1
          have x3 := (X8.out.below B2.out).c 3 _ rfl
          have y3 := (Y10.out.below B2.out).c 3 _ rfl
          have hj0 : (0 : Int) ≤ (i2 : Int) := by omega
          have hj1 : (i2 : Int) < (pls.length : Int) := by omega
          clear ht
          go_upto_region 19 with (fail)
          go_cut [108] (fun s W => s = .bool false ∧ Aside0 (Below WB.heap.size WB W))
          case first =>
            go_quiet (fail)
            all_goals
              try go_wp2_with fail
              go_meet
              case rel => exact ⟨rfl, ⟨below_drewN' (Below.refl _ _) _⟩⟩
          case rest =>
          obtain ⟨rfl, BK⟩ := hcut
          go_wp2_with fail
          go_roundw
          case rel => exact ⟨i2 + 1, by go_num, by omega, ⟨below_more B2.out BK.out⟩⟩
          case measure => simp [intOf]; omega
        · have hge : ¬ (i2 : Int) < (pls.length : Int) := by omega
          obtain ⟨WB, hWB⟩ : ∃ WB : World, WB = wr := ⟨_, rfl⟩
          subst hWB
          replace RU := Aside0.mk (RU.out.below B2.out)
          replace HC := Aside0.mk (Kd.C_below HC.out B2.out)
          replace HM := Aside0.mk (Kd.C_below HM.out B2.out)
          replace N2 := Aside0.mk (N2.out.below B2.out)
          replace S4 := Aside0.mk (S4.out.below B2.out)
          replace T6 := Aside0.mk (T6.out.below B2.out)
          replace X8 := Aside0.mk (X8.out.below B2.out)
          replace CS := Aside0.mk (Kd.C_below CS.out B2.out)
          replace CL := Aside0.mk (Kd.C_below CL.out B2.out)
          replace FB := Aside0.mk (below_more FB.out B2.out)
          have HS0 : Aside0 (∀ W, Below WB.heap.size WB W → (Below WB.heap.size WB W ∧ W.cell? ⟨w1.heap.size, 0, none⟩ = some (.slice P0 n.pieces.length d0) ∧ W.cell? ⟨w1.heap.size, 1, none⟩ = some (.slice P1 n.joints.length d1) ∧ W.cell? ⟨w3.heap.size, 0, none⟩ = some (.int .i64 ap) ∧ W.cell? ⟨w3.heap.size, 1, none⟩ = some (.int .i64 aa) ∧ W.cell? ⟨w3.heap.size, 2, none⟩ = some (.int .i64 aw) ∧ W.cell? ⟨w5.heap.size, 0, none⟩ = some (.int .i64 bp) ∧ W.cell? ⟨w5.heap.size, 1, none⟩ = some (.int .i64 ba) ∧ W.cell? ⟨w5.heap.size, 2, none⟩ = some (.int .i64 bw))) := ⟨fun W hb => ⟨hb, (N2.out.below hb).c 0 _ rfl, (N2.out.below hb).c 1 _ rfl, (S4.out.below hb).c 0 _ rfl, (S4.out.below hb).c 1 _ rfl, (S4.out.below hb).c 2 _ rfl, (T6.out.below hb).c 0 _ rfl, (T6.out.below hb).c 1 _ rfl, (T6.out.below hb).c 2 _ rfl⟩⟩
          clear hi2
          go_upto_region 22 with (fail)
          clear hge
          go_cut [12] (fun s12 W => ∃ bn SA2 sl2 sc2 TA2 tl2 tc2, s12 = .pointer (some ⟨bn, 0, none⟩) ∧ Aside0 (Bx W bn [.bool q.ok, .int .i64 q.far, .slice SA2 sl2 sc2, .slice TA2 tl2 tc2]) ∧ Aside0 (Below WB.heap.size WB W))
          case first =>
            as_aux_lemma =>
            go_region_held3 (fun W => Below WB.heap.size WB W ∧ W.cell? ⟨w1.heap.size, 0, none⟩ = some (.slice P0 n.pieces.length d0) ∧ W.cell? ⟨w1.heap.size, 1, none⟩ = some (.slice P1 n.joints.length d1) ∧ W.cell? ⟨w3.heap.size, 0, none⟩ = some (.int .i64 ap) ∧ W.cell? ⟨w3.heap.size, 1, none⟩ = some (.int .i64 aa) ∧ W.cell? ⟨w3.heap.size, 2, none⟩ = some (.int .i64 aw) ∧ W.cell? ⟨w5.heap.size, 0, none⟩ = some (.int .i64 bp) ∧ W.cell? ⟨w5.heap.size, 1, none⟩ = some (.int .i64 ba) ∧ W.cell? ⟨w5.heap.size, 2, none⟩ = some (.int .i64 bw))
              (first | (with_reducible assumption) | (with_reducible exact HS0.out _ (by with_reducible assumption)) | (with_reducible exact HS0.out _ (by repeat (first | (with_reducible assumption) | (with_reducible refine below_set ?_ (Below.size (by with_reducible assumption))) | (with_reducible refine below_set ?_ (Nat.le_refl _)) | (with_reducible refine below_set ?_ (by omega)) | (with_reducible refine below_alloc ?_ _) | (with_reducible exact Below.refl _ _) | (with_reducible refine below_drew ?_)))))
              (first
                | (go_at_call 54; go_split_ands; (with_reducible refine Calls.mono (implTurn_any n ((P0, d0), (P1, d1)) ⟨ap, aa, aw⟩ _ (RU.out.below (by first | (with_reducible assumption) | (with_reducible exact Below.drew (Below.refl _ _)) | (repeat (first | (with_reducible assumption) | (with_reducible refine below_alloc ?_ _) | (with_reducible refine below_drew ?_) | (with_reducible exact Below.refl _ _))))) HF.out) ?_); rintro e q1 ⟨rfl, b3⟩; rw [HTA.out]; have hq1 : Below WB.heap.size WB q1 := below_more (by assumption) b3; have hz1 := hq1.size; (first | (with_reducible have XX1 := Aside0.mk (XX2.out.below b3)) | (with_reducible have XX1 := Aside0.mk ((Bx.new _ [.bool false, .int .i64 0, .slice none 0 0, .slice none 0 0] 108).below b3)) | (with_reducible have XX1 := Aside0.mk ((Bx.drew (Bx.new _ [.bool false, .int .i64 0, .slice none 0 0, .slice none 0 0] 108)).below b3)) | skip); clear b3)
                | (go_at_call 54; go_split_ands; (with_reducible refine Calls.mono (implTurn_any n ((P0, d0), (P1, d1)) ⟨bp, ba, bw⟩ _ (RU.out.below (by first | (with_reducible assumption) | (with_reducible exact Below.drew (Below.refl _ _)) | (repeat (first | (with_reducible assumption) | (with_reducible refine below_alloc ?_ _) | (with_reducible refine below_drew ?_) | (with_reducible exact Below.refl _ _))))) HF.out) ?_); rintro e q2 ⟨rfl, b3⟩; rw [HTB.out]; have hq2 : Below WB.heap.size WB q2 := below_more (by assumption) b3; have hz2 := hq2.size; (first | (with_reducible have XX2 := Aside0.mk (XX1.out.below b3)) | (with_reducible have XX2 := Aside0.mk ((Bx.new _ [.bool false, .int .i64 0, .slice none 0 0, .slice none 0 0] 108).below b3)) | (with_reducible have XX2 := Aside0.mk ((Bx.drew (Bx.new _ [.bool false, .int .i64 0, .slice none 0 0, .slice none 0 0] 108)).below b3)) | skip); clear b3)
                | (go_at_call 90; go_split_ands; (with_reducible refine Calls.mono (implShortest_any n ((P0, d0), (P1, d1)) ⟨tbp, tba, tbw⟩ ⟨tap, taa, taw⟩ _ (RU.out.below (by first | (with_reducible assumption) | (with_reducible exact Below.drew (Below.refl _ _)) | (repeat (first | (with_reducible assumption) | (with_reducible refine below_alloc ?_ _) | (with_reducible refine below_drew ?_) | (with_reducible exact Below.refl _ _))))) HF.out) ?_); rintro e q0 ⟨sv, lv, rfl, r1, r2, b3⟩; rw [← HQV.out]; rw [← HQV.out] at r1 r2; obtain ⟨SA2, sc2, es⟩ := Kd.R_slice r1; obtain ⟨TA2, tc2, et⟩ := Kd.R_slice r2; subst es; subst et; have hq : Below WB.heap.size WB q0 := below_more (by assumption) b3; have hz := hq.size; (first | (with_reducible have XX := Aside0.mk (XX2.out.below b3)) | (with_reducible have XX := Aside0.mk (XX1.out.below b3)) | (with_reducible have XX := Aside0.mk ((Bx.new _ [.bool false, .int .i64 0, .slice none 0 0, .slice none 0 0] 108).below b3)) | (with_reducible have XX := Aside0.mk ((Bx.drew (Bx.new _ [.bool false, .int .i64 0, .slice none 0 0, .slice none 0 0] 108)).below b3)) | skip); (first | (have xx0 := XX.out.c 0 _ rfl; have xf0 := XX.out.f 0; have xx1 := XX.out.c 1 _ rfl; have xf1 := XX.out.f 1; have xx2 := XX.out.c 2 _ rfl; have xf2 := XX.out.f 2; have xx3 := XX.out.c 3 _ rfl; have xf3 := XX.out.f 3; have xxl := XX.out.lt) | skip); have HQ := Aside0.mk hq; clear b3 r1 r2))
            all_goals
              try go_wp2_with fail
              go_meet
              case rel =>
                first
                  | (with_reducible refine ⟨_, _, _, _, _, _, _, rfl, ⟨Bx.new' _ _ _ rfl⟩, ⟨below_alloc HQ.out _⟩⟩; done)
                  | (refine ⟨_, SA2, q.steps.length, sc2, TA2, q.lies.length, tc2, rfl, ⟨?_⟩, ⟨?_⟩⟩
                     · exact ((((XX.out.set (i := 0) (by simp) _).set (i := 1) (by simp) _).set (i := 2) (by simp) _).set (i := 3) (by simp) _)
                     · repeat (first | (with_reducible exact HQ.out) | (with_reducible refine below_set ?_ (Below.size (by with_reducible assumption))) | (with_reducible refine below_set ?_ (Nat.le_refl _)) | (with_reducible refine below_set ?_ (by omega)) | (with_reducible refine below_alloc ?_ _)))
          case rest =>
          obtain ⟨bn, SA2, sl2, sc2, TA2, tl2, tc2, rfl, XX, BC⟩ := hcut
          obtain ⟨WC, hWC⟩ : ∃ WC, WC = wc := ⟨_, rfl⟩
          subst hWC
          replace RU := Aside0.mk (RU.out.below BC.out)
          replace HC := Aside0.mk (Kd.C_below HC.out BC.out)
          replace HM := Aside0.mk (Kd.C_below HM.out BC.out)
          replace N2 := Aside0.mk (N2.out.below BC.out)
          replace S4 := Aside0.mk (S4.out.below BC.out)
          replace T6 := Aside0.mk (T6.out.below BC.out)
          replace X8 := Aside0.mk (X8.out.below BC.out)
          replace CS := Aside0.mk (Kd.C_below CS.out BC.out)
          replace CL := Aside0.mk (Kd.C_below CL.out BC.out)
          replace FB := Aside0.mk (below_more FB.out BC.out)
          have z0 := XX.out.c 0 _ rfl; have z1 := XX.out.c 1 _ rfl
          rw [HBK.out.1] at z0
          rw [HBK.out.2] at z1
          have x0 := X8.out.c 0 _ rfl; have x1 := X8.out.c 1 _ rfl
          have n0 := N2.out.c 0 _ rfl; have n1 := N2.out.c 1 _ rfl
          have hb1 : (pok != pok) = false := by simp
          have hb2 : (pf != pf) = false := by simp
          go_wp2_with fail
          refine (lies_any n ((P0, d0), (P1, d1)) more A1 c1 _ RU.out hj120 HM.out hg1).mono ?_
          rintro e wL ⟨v13, rfl, rL, bL⟩
          have hll : (liesG n more).length = n.joints.length := (liesB_iff.1 (liesG_ok n more)).1
          obtain ⟨ls0, hls0⟩ : ∃ l, l = liesG n more := ⟨_, rfl⟩
          rw [← hls0] at rL hll
          have RL := Aside0.mk rL
          have BL := Aside0.mk bL
          have HLL := Aside0.mk hll
          obtain ⟨GA, gc, eg⟩ := Kd.R_slice rL
          rw [hll] at eg
          subst eg
          have HZL : Aside0 (WC.heap.size ≤ wL.heap.size) := ⟨bL.size⟩
          clear z0 z1 x0 x1 n0 n1 hb1 hb2 hls0 rL bL hll
          have x0 := (X8.out.below BL.out).c 0 _ rfl
          go_upto_if 134 with (fail)
          clear x0
          go_cut [13] (fun s13 W => ∃ (ls : List Int) (GA : Option Addr) (gc : Nat), s13 = .slice GA ls.length gc ∧ Aside0 (Kd.C (Kd.int .i64) W GA ls.length ls) ∧ Aside0 (Below WC.heap.size WC W))
          case first =>
            as_aux_lemma =>
            cases pok with
            | false =>
              go_wp2_with fail
              go_meet
              case rel => exact ⟨ls0, GA, gc, by rw [HLL.out], ⟨by exact (Kd.R_reads' RL.out).2.2⟩, BL⟩
            | true =>
              have x3 := (X8.out.below BL.out).c 3 _ rfl
              go_wp2_with fail
              clear x3
              go_loopw [138] (fun v138 wr => ∃ (j : Nat) (ls : List Int), v138 = .int .i64 (j : Int) ∧ j ≤ pls.length ∧ Aside0 (ls.length = n.joints.length) ∧ Aside0 (Kd.R (Kd.int .i64) 3 wr WC.heap.size (fun _ => True) (.slice GA n.joints.length gc) ls) ∧ Aside0 (Below WC.heap.size WC wr)) (fun v138 _ => pls.length - (intOf v138).toNat)
              case atStart => exact ⟨0, ls0, rfl, Nat.zero_le _, HLL, RL, BL⟩
              case round =>
                obtain ⟨j, ls, rfl, hj, HLS, RJ, BJ⟩ := hrel
                by_cases hlj : j < pls.length
                · as_aux_lemma =>
                  obtain ⟨adI, eI, q0, q1⟩ := at_Lie (Kd.C_below CL.out BJ.out) j hlj
                  subst eI
                  have hjn := HJN.out _ (getD_mem pls j hlj)
                  obtain ⟨⟨tj, tl⟩, ht⟩ : ∃ s, s = pls.getD j default := ⟨_, rfl⟩
                  rw [← ht] at q0 q1 hjn
                  simp only at q0 q1 hjn
                  obtain ⟨ti, hti⟩ := Int.eq_ofNat_of_zero_le hjn.1
                  subst hti
                  have hti2 : ti < n.joints.length := by omega
                  obtain ⟨gL, cL, eL, _⟩ := Kd.R_form RJ.out (by have := HLS.out; omega)
                  injection eL with eL1 eL2 eL3
                  clear eL2 eL3
                  subst eL1
                  obtain ⟨WJ, hWJ⟩ : ∃ WJ : World, WJ = wr := ⟨_, rfl⟩
                  subst hWJ
                  obtain ⟨WK, hWK⟩ : ∃ WK, WK = WJ.alloc (.cells #[.int .i64 (ti : Int), .int .i64 tl] 111) := ⟨_, rfl⟩
                  have bK : Below WJ.heap.size WJ WK := by rw [hWK]; exact below_alloc (Below.refl _ _) _
                  have XK : Aside0 (Bx WK WJ.heap.size [.int .i64 (ti : Int), .int .i64 tl]) := ⟨by rw [hWK]; exact Bx.new WJ _ 111⟩
                  have RK := Aside0.mk (Kd.R_below RJ.out bK)
                  have BK := Aside0.mk (below_more BJ.out bK)
                  have HWK := Aside0.mk hWK
                  have HTI := Aside0.mk hti2
                  have hj0 : (0 : Int) ≤ (j : Int) := by omega
                  have hj1 : (j : Int) < (pls.length : Int) := by omega
                  have hk0 : (0 : Int) ≤ (ti : Int) := by omega
                  have hk1 : (ti : Int) < (n.joints.length : Int) := by omega
                  clear ht hjn bK hWK hti2
                  go_upto_region 30 with (fail)
                  rw [← HWK.out]
                  clear q0 q1
                  have k0 := XK.out.c 0 _ rfl; have k1 := XK.out.c 1 _ rfl
                  go_upto_region 31 with ((with_reducible refine gate_store (t := 3) (p := 147) rfl ?_); refine store_whole (Kd.int .i64) (w0 := WC) WC.heap.size rfl rfl 3 _ _ rfl 3 ti ls tl _ 0 (fun _ => True) (fun _ => False) rfl (by first | rfl | (simp [Kd.int, Kd.scalar]; done)) rfl (by kernel_rfl) RK.out HTI.out rfl (fun _ hk => hk.elim) BK.out ?_; intro wS hRS hBS hGS; have RS := Aside0.mk hRS; have BS := Aside0.mk hBS; clear hRS hBS hGS)
                  go_wp2_with fail
                  go_roundw
                  case rel => exact ⟨j + 1, ls.set ti tl, by go_num, by omega, ⟨by rw [List.length_set]; exact HLS.out⟩, RS, BS⟩
                  case measure => simp [intOf]; omega
                · have hge : ¬ (j : Int) < (pls.length : Int) := by omega
                  obtain ⟨WJ, hWJ⟩ : ∃ WJ : World, WJ = wr := ⟨_, rfl⟩
                  subst hWJ
                  have n0 := (N2.out.below BJ.out).c 0 _ rfl; have n1 := (N2.out.below BJ.out).c 1 _ rfl
                  have x0 := (X8.out.below BJ.out).c 0 _ rfl; have x1 := (X8.out.below BJ.out).c 1 _ rfl; have x2 := (X8.out.below BJ.out).c 2 _ rfl; have x3 := (X8.out.below BJ.out).c 3 _ rfl
                  have s0 := (S4.out.below BJ.out).c 0 _ rfl; have s1 := (S4.out.below BJ.out).c 1 _ rfl; have s2 := (S4.out.below BJ.out).c 2 _ rfl
                  clear hj
                  go_wp2_with fail
                  refine (implStretch_any n ((P0, d0), (P1, d1)) ⟨true, pf, ps, pls⟩ ((SA, sc), (LA, lc)) ⟨ap, aa, aw⟩ _ (RU.out.below BJ.out) (Kd.C_below CS.out BJ.out) HF.out).mono ?_
                  rintro e wM ⟨vp, rfl, rP, bM⟩
                  rw [← HPA.out] at rP
                  obtain ⟨QA, qc, eq⟩ := Kd.R_slice rP
                  subst eq
                  have RP := Aside0.mk (Kd.R_reads' rP).2.2
                  have BM := Aside0.mk (below_more BJ.out bM)
                  have RLM := Aside0.mk (Kd.R_below RJ.out bM)
                  obtain ⟨WM, hWM⟩ : ∃ WM, WM = wM := ⟨_, rfl⟩
                  subst hWM
                  clear n0 n1 x0 x1 x2 x3 s0 s1 s2 rP bM hge
                  have HS1 := HST.out (by simp)
                  have HS0 : Aside0 (∀ W, Below WM.heap.size WM W → (Below WM.heap.size WM W ∧ W.cell? ⟨w1.heap.size, 0, none⟩ = some (.slice P0 n.pieces.length d0) ∧ W.cell? ⟨w1.heap.size, 1, none⟩ = some (.slice P1 n.joints.length d1) ∧ W.cell? ⟨w3.heap.size, 0, none⟩ = some (.int .i64 ap) ∧ W.cell? ⟨w3.heap.size, 1, none⟩ = some (.int .i64 aa) ∧ W.cell? ⟨w3.heap.size, 2, none⟩ = some (.int .i64 aw) ∧ W.cell? ⟨w7.heap.size, 0, none⟩ = some (.bool true) ∧ W.cell? ⟨w7.heap.size, 1, none⟩ = some (.int .i64 pf) ∧ W.cell? ⟨w7.heap.size, 2, none⟩ = some (.slice SA ps.length sc) ∧ W.cell? ⟨w7.heap.size, 3, none⟩ = some (.slice LA pls.length lc))) := ⟨fun W hb => ⟨hb, ((N2.out.below BM.out).below hb).c 0 _ rfl, ((N2.out.below BM.out).below hb).c 1 _ rfl, ((S4.out.below BM.out).below hb).c 0 _ rfl, ((S4.out.below BM.out).below hb).c 1 _ rfl, ((S4.out.below BM.out).below hb).c 2 _ rfl, ((X8.out.below BM.out).below hb).c 0 _ rfl, ((X8.out.below BM.out).below hb).c 1 _ rfl, ((X8.out.below BM.out).below hb).c 2 _ rfl, ((X8.out.below BM.out).below hb).c 3 _ rfl⟩⟩
                  have hml : parts.length ≤ 9223372036854775807 := RP.out.2.1
                  by_cases hm : 0 < parts.length
                  · as_aux_lemma =>
                    have HPF := Aside0.mk (HS1.1 hm)
                    have HPE : Aside0 (¬ parts = []) := ⟨by intro h; rw [h] at hm; simp at hm⟩
                    clear HS1
                    have hm' : (0 : Int) < (parts.length : Int) := by omega
                    go_upto_region 33 with (fail)
                    refine wp_region_held_drew (S := fun W => Below WM.heap.size WM W ∧ W.cell? ⟨w1.heap.size, 0, none⟩ = some (.slice P0 n.pieces.length d0) ∧ W.cell? ⟨w1.heap.size, 1, none⟩ = some (.slice P1 n.joints.length d1) ∧ W.cell? ⟨w3.heap.size, 0, none⟩ = some (.int .i64 ap) ∧ W.cell? ⟨w3.heap.size, 1, none⟩ = some (.int .i64 aa) ∧ W.cell? ⟨w3.heap.size, 2, none⟩ = some (.int .i64 aw) ∧ W.cell? ⟨w7.heap.size, 0, none⟩ = some (.bool true) ∧ W.cell? ⟨w7.heap.size, 1, none⟩ = some (.int .i64 pf) ∧ W.cell? ⟨w7.heap.size, 2, none⟩ = some (.slice SA ps.length sc) ∧ W.cell? ⟨w7.heap.size, 3, none⟩ = some (.slice LA pls.length lc)) (by kernel_rfl) ?_ (fun hHeld => ?_)
                    · exact HS0.out _ (Below.drew (Below.refl _ _))
                    refine tkq (i := 0) (v := ?_) rfl (Or.inl ⟨by rfl, ?_⟩) hHeld ?_; rotate_left; · (intro w h; (try dsimp only at h); go_simp; (try with_reducible rfl))
                    (try simp only [Act.put, z1, z2, z3, z4, z5, z6])
                    refine tkq (i := 1) (v := ?_) rfl (Or.inl ⟨by rfl, ?_⟩) hHeld ?_; rotate_left; · (intro w h; (try dsimp only at h); go_simp; (try with_reducible rfl))
                    (try simp only [Act.put, z1, z2, z3, z4, z5, z6])
                    refine tkq (i := 2) (v := ?_) rfl (Or.inl ⟨by rfl, ?_⟩) hHeld ?_; rotate_left; · (intro w h; (try dsimp only at h); go_simp; (try with_reducible rfl))
                    (try simp only [Act.put, z1, z2, z3, z4, z5, z6])
                    refine tkq (i := 3) (v := ?_) rfl (Or.inl ⟨by rfl, ?_⟩) hHeld ?_; rotate_left; · (intro w h; (try dsimp only at h); go_simp; (try with_reducible rfl))
                    (try simp only [Act.put, z1, z2, z3, z4, z5, z6])
                    refine wpAnyH_ready (rs := [4]) (by kernel_rfl) (by simp) ?_
                    refine AllReadyH.cons rfl (fun K hK => ?_) AllReadyH.nil
                    go_simp
                    (go_at_call 93; go_split_ands; (with_reducible refine Calls.mono (specStretch_any n ((P0, d0), (P1, d1)) ⟨true, pf, ps, pls⟩ ((SA, sc), (LA, lc)) ⟨ap, aa, aw⟩ _ ((RU.out.below BM.out).below (by first | (with_reducible assumption) | (with_reducible exact Below.drew (Below.refl _ _)))) (Kd.C_below (Kd.C_below CS.out BM.out) (by first | (with_reducible assumption) | (with_reducible exact Below.drew (Below.refl _ _)))) HF.out) ?_); rintro e wq ⟨vq, rfl, rq, b3⟩; rw [← HPA.out] at rq; obtain ⟨TA, tc, et⟩ := Kd.R_slice rq; subst et; have RQ := Aside0.mk (Kd.R_reads' rq).2.2; have q3 : Below WM.heap.size WM wq := below_more (by first | (with_reducible assumption) | (with_reducible exact Below.drew (Below.refl _ _))) b3; clear rq b3)
                    go_wp2_with fail
                    refine hK.out _ _ (HS0.out _ (by assumption)) (fun hHeld => ?_)
                    clear hK K
                    (try simp only [Act.put, z1, z2, z3, z4, z5, z6])
                    refine wpAnyH_ready (rs := [5]) (by kernel_rfl) (by simp) ?_
                    refine AllReadyH.cons rfl (fun K hK => ?_) AllReadyH.nil
                    go_simp
                    (go_at_call 69; go_split_ands; (with_reducible refine Calls.mono (wParts_same parts QA qc TA tc _ (Kd.C_below RP.out q3) RQ.out) ?_); rintro e wt ⟨rfl, b3⟩; have q4 : Below WM.heap.size WM wt := below_more q3 b3; clear b3)
                    go_wp2_with fail
                    refine hK.out _ _ (HS0.out _ (by assumption)) (fun hHeld => ?_)
                    clear hK K
                    (try simp only [Act.put, z1, z2, z3, z4, z5, z6])
                    refine tkq (i := 6) (v := ?_) rfl (Or.inl ⟨by rfl, ?_⟩) hHeld ?_; rotate_left; · (intro w h; (try dsimp only at h); go_simp; (try with_reducible rfl))
                    (try simp only [Act.put, z1, z2, z3, z4, z5, z6])
                    refine tkq (i := 7) (v := ?_) rfl (Or.inl ⟨by rfl, ?_⟩) hHeld ?_; rotate_left; · (intro w h; (try dsimp only at h); go_simp; (try with_reducible rfl))
                    (try simp only [Act.put, z1, z2, z3, z4, z5, z6])
                    refine tkq (i := 8) (v := ?_) rfl (Or.inl ⟨by rfl, ?_⟩) hHeld ?_; rotate_left; · (intro w h; (try dsimp only at h); go_simp; (try with_reducible rfl))
                    (try simp only [Act.put, z1, z2, z3, z4, z5, z6])
                    refine tkq (i := 9) (v := ?_) rfl (Or.inl ⟨by rfl, ?_⟩) hHeld ?_; rotate_left; · (intro w h; (try dsimp only at h); go_simp; (try with_reducible rfl))
                    (try simp only [Act.put, z1, z2, z3, z4, z5, z6])
                    refine tkq (i := 10) (v := .bool true) rfl (Or.inl ⟨by rfl, ?_⟩) hHeld ?_
                    · (intro w hSw; (try dsimp only at hSw); go_simp; (try simp); (try omega); (try exact HPE.out))
                    (try simp only [Act.put, z1, z2, z3, z4, z5, z6])
                    refine tkq (i := 11) (v := ?_) rfl (Or.inl ⟨by rfl, ?_⟩) hHeld ?_; rotate_left; · (intro w h; (try dsimp only at h); go_simp; (try with_reducible rfl))
                    (try simp only [Act.put, z1, z2, z3, z4, z5, z6])
                    refine tkq (i := 12) (v := ?_) rfl (Or.inl ⟨by rfl, ?_⟩) hHeld ?_; rotate_left; · (intro w h; (try dsimp only at h); go_simp; (try with_reducible rfl))
                    (try simp only [Act.put, z1, z2, z3, z4, z5, z6])
                    refine tkq (i := 14) (v := ?_) rfl (Or.inl ⟨by rfl, ?_⟩) hHeld ?_; rotate_left; · (intro w h; (try dsimp only at h); go_simp; (try with_reducible rfl))
                    (try simp only [Act.put, z1, z2, z3, z4, z5, z6])
                    refine tkq (i := 15) (v := ?_) rfl (Or.inl ⟨by rfl, ?_⟩) hHeld ?_; rotate_left; · (intro w h; (try dsimp only at h); go_simp; (try with_reducible rfl))
                    (try simp only [Act.put, z1, z2, z3, z4, z5, z6])
                    refine wpAnyH_ready (rs := [13]) (by kernel_rfl) (by simp) ?_
                    refine AllReadyH.cons rfl (fun K hK => ?_) AllReadyH.nil
                    go_simp
                    (go_at_call 29; go_split_ands; (with_reducible refine Calls.mono (implPartsLen_any QA qc parts _ (Kd.C_below RP.out q4)) ?_); rintro e wu ⟨rfl, b3⟩; rw [HPF.out]; have q5 : Below WM.heap.size WM wu := below_more q4 b3; clear b3)
                    go_wp2_with fail
                    refine hK.out _ _ (HS0.out _ (by assumption)) (fun hHeld => ?_)
                    clear hK K
                    (try simp only [Act.put, z1, z2, z3, z4, z5, z6])
                    refine tkq (i := 16) (v := .bool false) rfl (Or.inl ⟨by rfl, ?_⟩) hHeld ?_
                    · (intro w hSw; (try dsimp only at hSw); go_simp; (try simp); (try omega); (try exact HPE.out))
                    (try simp only [Act.put, z1, z2, z3, z4, z5, z6])
                    refine tkq (i := 17) (v := ?_) rfl (Or.inl ⟨by rfl, ?_⟩) hHeld ?_; rotate_left; · (intro w h; (try dsimp only at h); go_simp; (try with_reducible rfl))
                    (try simp only [Act.put, z1, z2, z3, z4, z5, z6])
                    refine tkq (i := 18) (v := ?_) rfl (Or.inl ⟨by rfl, ?_⟩) hHeld ?_; rotate_left; · (intro w h; (try dsimp only at h); go_simp; (try with_reducible rfl))
                    (try simp only [Act.put, z1, z2, z3, z4, z5, z6])
                    refine tkq (i := 19) (v := ?_) rfl (Or.inl ⟨by rfl, ?_⟩) hHeld ?_; rotate_left; · (intro w h; (try dsimp only at h); go_simp; (try with_reducible rfl))
                    (try simp only [Act.put, z1, z2, z3, z4, z5, z6])
                    refine tkq (i := 20) (v := ?_) rfl (Or.inl ⟨by rfl, ?_⟩) hHeld ?_; rotate_left; · (intro w h; (try dsimp only at h); go_simp; (try with_reducible rfl))
                    (try simp only [Act.put, z1, z2, z3, z4, z5, z6])
                    refine tkq (i := 21) (v := ?_) rfl (Or.inl ⟨by rfl, ?_⟩) hHeld ?_; rotate_left; · (intro w h; (try dsimp only at h); go_simp; (try with_reducible rfl))
                    (try simp only [Act.put, z1, z2, z3, z4, z5, z6])
                    refine tkq (i := 22) (v := .bool false) rfl (Or.inl ⟨by rfl, ?_⟩) hHeld ?_
                    · (intro w hSw; (try dsimp only at hSw); go_simp; (try simp); (try omega); (try exact HPE.out))
                    (try simp only [Act.put, z1, z2, z3, z4, z5, z6])
                    refine tkq (i := 23) (v := ?_) rfl (Or.inl ⟨by rfl, ?_⟩) hHeld ?_; rotate_left; · (intro w h; (try dsimp only at h); go_simp; (try with_reducible rfl))
                    (try simp only [Act.put, z1, z2, z3, z4, z5, z6])
                    refine tkq (i := 24) (v := undef) rfl (Or.inr ⟨by rfl, rfl⟩) hHeld ?_
                    (try simp only [Act.put, z1, z2, z3, z4, z5, z6])
                    refine tkq (i := 25) (v := undef) rfl (Or.inr ⟨by rfl, rfl⟩) hHeld ?_
                    (try simp only [Act.put, z1, z2, z3, z4, z5, z6])
                    refine tkq (i := 26) (v := undef) rfl (Or.inr ⟨by rfl, rfl⟩) hHeld ?_
                    (try simp only [Act.put, z1, z2, z3, z4, z5, z6])
                    refine tkq (i := 27) (v := undef) rfl (Or.inr ⟨by rfl, rfl⟩) hHeld ?_
                    (try simp only [Act.put, z1, z2, z3, z4, z5, z6])
                    refine tkq (i := 28) (v := ?_) rfl (Or.inl ⟨by rfl, ?_⟩) hHeld ?_; rotate_left; · (intro w h; (try dsimp only at h); go_simp; (try with_reducible rfl))
                    (try simp only [Act.put, z1, z2, z3, z4, z5, z6])
                    refine tkq (i := 29) (v := ?_) rfl (Or.inl ⟨by rfl, ?_⟩) hHeld ?_; rotate_left; · (intro w h; (try dsimp only at h); go_simp; (try with_reducible rfl))
                    (try simp only [Act.put, z1, z2, z3, z4, z5, z6])
                    refine wpAnyH_done (by kernel_rfl) ?_ _
                    go_wp2_with fail
                    go_meet
                    case rel => exact ⟨ls, GA, gc, by rw [HLS.out], ⟨by exact (Kd.R_reads' (Kd.R_below RLM.out q5)).2.2⟩, ⟨below_more BM.out q5⟩⟩
                  · as_aux_lemma =>
                    have hz : parts.length = 0 := by omega
                    have HPL := Aside0.mk (HS1.2 hz)
                    clear HS1
                    have HZP := Aside0.mk hz
                    have HPE : Aside0 (parts = []) := ⟨List.length_eq_zero_iff.1 hz⟩
                    clear hz
                    clear hm
                    go_upto_region 33 with (fail)
                    refine wp_region_held_drew (S := fun W => Below WM.heap.size WM W ∧ W.cell? ⟨w1.heap.size, 0, none⟩ = some (.slice P0 n.pieces.length d0) ∧ W.cell? ⟨w1.heap.size, 1, none⟩ = some (.slice P1 n.joints.length d1) ∧ W.cell? ⟨w3.heap.size, 0, none⟩ = some (.int .i64 ap) ∧ W.cell? ⟨w3.heap.size, 1, none⟩ = some (.int .i64 aa) ∧ W.cell? ⟨w3.heap.size, 2, none⟩ = some (.int .i64 aw) ∧ W.cell? ⟨w7.heap.size, 0, none⟩ = some (.bool true) ∧ W.cell? ⟨w7.heap.size, 1, none⟩ = some (.int .i64 pf) ∧ W.cell? ⟨w7.heap.size, 2, none⟩ = some (.slice SA ps.length sc) ∧ W.cell? ⟨w7.heap.size, 3, none⟩ = some (.slice LA pls.length lc)) (by kernel_rfl) ?_ (fun hHeld => ?_)
                    · exact HS0.out _ (Below.drew (Below.refl _ _))
                    refine tkq (i := 0) (v := ?_) rfl (Or.inl ⟨by rfl, ?_⟩) hHeld ?_; rotate_left; · (intro w h; (try dsimp only at h); go_simp; (try with_reducible rfl))
                    (try simp only [Act.put, z1, z2, z3, z4, z5, z6])
                    refine tkq (i := 1) (v := ?_) rfl (Or.inl ⟨by rfl, ?_⟩) hHeld ?_; rotate_left; · (intro w h; (try dsimp only at h); go_simp; (try with_reducible rfl))
                    (try simp only [Act.put, z1, z2, z3, z4, z5, z6])
                    refine tkq (i := 2) (v := ?_) rfl (Or.inl ⟨by rfl, ?_⟩) hHeld ?_; rotate_left; · (intro w h; (try dsimp only at h); go_simp; (try with_reducible rfl))
                    (try simp only [Act.put, z1, z2, z3, z4, z5, z6])
                    refine tkq (i := 3) (v := ?_) rfl (Or.inl ⟨by rfl, ?_⟩) hHeld ?_; rotate_left; · (intro w h; (try dsimp only at h); go_simp; (try with_reducible rfl))
                    (try simp only [Act.put, z1, z2, z3, z4, z5, z6])
                    refine wpAnyH_ready (rs := [4]) (by kernel_rfl) (by simp) ?_
                    refine AllReadyH.cons rfl (fun K hK => ?_) AllReadyH.nil
                    go_simp
                    (go_at_call 93; go_split_ands; (with_reducible refine Calls.mono (specStretch_any n ((P0, d0), (P1, d1)) ⟨true, pf, ps, pls⟩ ((SA, sc), (LA, lc)) ⟨ap, aa, aw⟩ _ ((RU.out.below BM.out).below (by first | (with_reducible assumption) | (with_reducible exact Below.drew (Below.refl _ _)))) (Kd.C_below (Kd.C_below CS.out BM.out) (by first | (with_reducible assumption) | (with_reducible exact Below.drew (Below.refl _ _)))) HF.out) ?_); rintro e wq ⟨vq, rfl, rq, b3⟩; rw [← HPA.out] at rq; obtain ⟨TA, tc, et⟩ := Kd.R_slice rq; subst et; have RQ := Aside0.mk (Kd.R_reads' rq).2.2; have q3 : Below WM.heap.size WM wq := below_more (by first | (with_reducible assumption) | (with_reducible exact Below.drew (Below.refl _ _))) b3; clear rq b3)
                    go_wp2_with fail
                    refine hK.out _ _ (HS0.out _ (by assumption)) (fun hHeld => ?_)
                    clear hK K
                    (try simp only [Act.put, z1, z2, z3, z4, z5, z6])
                    refine wpAnyH_ready (rs := [5]) (by kernel_rfl) (by simp) ?_
                    refine AllReadyH.cons rfl (fun K hK => ?_) AllReadyH.nil
                    go_simp
                    (go_at_call 69; go_split_ands; (with_reducible refine Calls.mono (wParts_same parts QA qc TA tc _ (Kd.C_below RP.out q3) RQ.out) ?_); rintro e wt ⟨rfl, b3⟩; have q4 : Below WM.heap.size WM wt := below_more q3 b3; clear b3)
                    go_wp2_with fail
                    refine hK.out _ _ (HS0.out _ (by assumption)) (fun hHeld => ?_)
                    clear hK K
                    (try simp only [Act.put, z1, z2, z3, z4, z5, z6])
                    refine tkq (i := 6) (v := ?_) rfl (Or.inl ⟨by rfl, ?_⟩) hHeld ?_; rotate_left; · (intro w h; (try dsimp only at h); go_simp; (try with_reducible rfl))
                    (try simp only [Act.put, z1, z2, z3, z4, z5, z6])
                    refine tkq (i := 7) (v := ?_) rfl (Or.inl ⟨by rfl, ?_⟩) hHeld ?_; rotate_left; · (intro w h; (try dsimp only at h); go_simp; (try with_reducible rfl))
                    (try simp only [Act.put, z1, z2, z3, z4, z5, z6])
                    refine tkq (i := 8) (v := ?_) rfl (Or.inl ⟨by rfl, ?_⟩) hHeld ?_; rotate_left; · (intro w h; (try dsimp only at h); go_simp; (try with_reducible rfl))
                    (try simp only [Act.put, z1, z2, z3, z4, z5, z6])
                    refine tkq (i := 9) (v := ?_) rfl (Or.inl ⟨by rfl, ?_⟩) hHeld ?_; rotate_left; · (intro w h; (try dsimp only at h); go_simp; (try with_reducible rfl))
                    (try simp only [Act.put, z1, z2, z3, z4, z5, z6])
                    refine tkq (i := 10) (v := .bool false) rfl (Or.inl ⟨by rfl, ?_⟩) hHeld ?_
                    · (intro w hSw; (try dsimp only at hSw); go_simp; (try simp); (try omega); (try exact HPE.out); (try exact HPL.out))
                    (try simp only [Act.put, z1, z2, z3, z4, z5, z6])
                    refine tkq (i := 11) (v := ?_) rfl (Or.inl ⟨by rfl, ?_⟩) hHeld ?_; rotate_left; · (intro w h; (try dsimp only at h); go_simp; (try with_reducible rfl))
                    (try simp only [Act.put, z1, z2, z3, z4, z5, z6])
                    refine tkq (i := 12) (v := undef) rfl (Or.inr ⟨by rfl, rfl⟩) hHeld ?_
                    (try simp only [Act.put, z1, z2, z3, z4, z5, z6])
                    refine tkq (i := 13) (v := undef) rfl (Or.inr ⟨by rfl, rfl⟩) hHeld ?_
                    (try simp only [Act.put, z1, z2, z3, z4, z5, z6])
                    refine tkq (i := 14) (v := undef) rfl (Or.inr ⟨by rfl, rfl⟩) hHeld ?_
                    (try simp only [Act.put, z1, z2, z3, z4, z5, z6])
                    refine tkq (i := 15) (v := undef) rfl (Or.inr ⟨by rfl, rfl⟩) hHeld ?_
                    (try simp only [Act.put, z1, z2, z3, z4, z5, z6])
                    refine tkq (i := 16) (v := undef) rfl (Or.inr ⟨by rfl, rfl⟩) hHeld ?_
                    (try simp only [Act.put, z1, z2, z3, z4, z5, z6])
                    refine tkq (i := 17) (v := ?_) rfl (Or.inl ⟨by rfl, ?_⟩) hHeld ?_; rotate_left; · (intro w h; (try dsimp only at h); go_simp; (try with_reducible rfl))
                    (try simp only [Act.put, z1, z2, z3, z4, z5, z6])
                    refine tkq (i := 18) (v := ?_) rfl (Or.inl ⟨by rfl, ?_⟩) hHeld ?_; rotate_left; · (intro w h; (try dsimp only at h); go_simp; (try with_reducible rfl))
                    (try simp only [Act.put, z1, z2, z3, z4, z5, z6])
                    refine tkq (i := 19) (v := ?_) rfl (Or.inl ⟨by rfl, ?_⟩) hHeld ?_; rotate_left; · (intro w h; (try dsimp only at h); go_simp; (try with_reducible rfl))
                    (try simp only [Act.put, z1, z2, z3, z4, z5, z6])
                    refine tkq (i := 20) (v := ?_) rfl (Or.inl ⟨by rfl, ?_⟩) hHeld ?_; rotate_left; · (intro w h; (try dsimp only at h); go_simp; (try with_reducible rfl))
                    (try simp only [Act.put, z1, z2, z3, z4, z5, z6])
                    refine tkq (i := 21) (v := ?_) rfl (Or.inl ⟨by rfl, ?_⟩) hHeld ?_; rotate_left; · (intro w h; (try dsimp only at h); go_simp; (try with_reducible rfl))
                    (try simp only [Act.put, z1, z2, z3, z4, z5, z6])
                    refine tkq (i := 22) (v := .bool true) rfl (Or.inl ⟨by rfl, ?_⟩) hHeld ?_
                    · (intro w hSw; (try dsimp only at hSw); go_simp; (try simp); (try omega); (try exact HPE.out); (try exact HPL.out))
                    (try simp only [Act.put, z1, z2, z3, z4, z5, z6])
                    refine tkq (i := 23) (v := ?_) rfl (Or.inl ⟨by rfl, ?_⟩) hHeld ?_; rotate_left; · (intro w h; (try dsimp only at h); go_simp; (try with_reducible rfl))
                    (try simp only [Act.put, z1, z2, z3, z4, z5, z6])
                    refine tkq (i := 24) (v := ?_) rfl (Or.inl ⟨by rfl, ?_⟩) hHeld ?_; rotate_left; · (intro w h; (try dsimp only at h); go_simp; (try with_reducible rfl))
                    (try simp only [Act.put, z1, z2, z3, z4, z5, z6])
                    refine tkq (i := 25) (v := ?_) rfl (Or.inl ⟨by rfl, ?_⟩) hHeld ?_; rotate_left; · (intro w h; (try dsimp only at h); go_simp; (try with_reducible rfl))
                    (try simp only [Act.put, z1, z2, z3, z4, z5, z6])
                    refine tkq (i := 26) (v := ?_) rfl (Or.inl ⟨by rfl, ?_⟩) hHeld ?_; rotate_left; · (intro w h; (try dsimp only at h); go_simp; (try with_reducible rfl))
                    (try simp only [Act.put, z1, z2, z3, z4, z5, z6])
                    refine tkq (i := 27) (v := .bool false) rfl (Or.inl ⟨by rfl, ?_⟩) hHeld ?_
                    · (intro w hSw; (try dsimp only at hSw); go_simp; (try simp); (try omega); (try exact HPE.out); (try exact HPL.out))
                    (try simp only [Act.put, z1, z2, z3, z4, z5, z6])
                    refine tkq (i := 28) (v := ?_) rfl (Or.inl ⟨by rfl, ?_⟩) hHeld ?_; rotate_left; · (intro w h; (try dsimp only at h); go_simp; (try with_reducible rfl))
                    (try simp only [Act.put, z1, z2, z3, z4, z5, z6])
                    refine tkq (i := 29) (v := ?_) rfl (Or.inl ⟨by rfl, ?_⟩) hHeld ?_; rotate_left; · (intro w h; (try dsimp only at h); go_simp; (try with_reducible rfl))
                    (try simp only [Act.put, z1, z2, z3, z4, z5, z6])
                    refine wpAnyH_done (by kernel_rfl) ?_ _
                    go_wp2_with fail
                    go_meet
                    case rel => exact ⟨ls, GA, gc, by rw [HLS.out], ⟨by exact (Kd.R_reads' (Kd.R_below RLM.out q4)).2.2⟩, ⟨below_more BM.out q4⟩⟩
          case rest =>
          obtain ⟨ls1, GB, gb, rfl, CG, BG⟩ := hcut
          obtain ⟨WG, hWG⟩ : ∃ WG, WG = wc := ⟨_, rfl⟩
          subst hWG
          clear RL BL HLL HZL
          go_wp2_with fail
          go_loopw [13, 17] (fun v13 v17 wr => ∃ (k : Nat) (ls : List Int) (GA : Option Addr) (gc : Nat), v17 = .int .i64 (k : Int) ∧ v13 = .slice GA ls.length gc ∧ k ≤ 6 ∧ Aside0 (Kd.C (Kd.int .i64) wr GA ls.length ls) ∧ Aside0 (Below WC.heap.size WC wr)) (fun _ v17 _ => 6 - (intOf v17).toNat)
          case atStart => exact ⟨0, ls1, GB, gb, rfl, rfl, by omega, CG, BG⟩
          case round =>
            obtain ⟨k, ls, GD, gd, rfl, rfl, hk, CK, BK⟩ := hrel
            by_cases hlk : k < 6
            · as_aux_lemma =>
              obtain ⟨WK, hWK⟩ : ∃ WK : World, WK = wr := ⟨_, rfl⟩
              subst hWK
              have HM2 := Aside0.mk (Kd.C_below HM.out BK.out)
              have RU2 := Aside0.mk (RU.out.below BK.out)
              have N3 := Aside0.mk (N2.out.below BK.out)
              have S3 := Aside0.mk (S4.out.below BK.out)
              have T3 := Aside0.mk (T6.out.below BK.out)
              have X3 := Aside0.mk (X8.out.below BK.out)
              have FB3 := Aside0.mk (below_more FB.out BK.out)
              have hk6 : (k : Int) < 6 := by omega
              have hw3k : IntKind.i64.wrap (3 * (k : Int)) = ((3 * k : Nat) : Int) := by rw [wrap64 (by omega) (by omega)]; push_cast; rfl
              obtain ⟨f0, hf0⟩ : ∃ f, f = wholeV more (3 * k) := ⟨_, rfl⟩
              have HF0 := Aside0.mk hf0
              clear hf0
              go_wp2_with fail
              refine (wWhole_any more A1 c1 (3 * k) _ _ HM2.out hg1 rfl (by omega) hlm).mono ?_
              rintro e w20 ⟨rfl, rfl⟩
              rw [← HF0.out]
              clear hw3k
              go_upto_region 39 with (fail)
              go_cut [202] (fun s202 W => ∃ c : Bool, s202 = .bool c ∧ Aside0 (W = WK))
              case first =>
                have x0 := X3.out.c 0 _ rfl; have x3 := X3.out.c 3 _ rfl
                cases pok with
                | false =>
                  go_wp2_with fail
                  go_meet
                  case rel => exact ⟨_, rfl, ⟨rfl⟩⟩
                | true =>
                  by_cases hk0 : k = 0
                  · have hk1 : ((k : Int) == 0) = true := by simp [hk0]
                    clear hk0
                    go_wp2_with fail
                    go_meet
                    case rel => exact ⟨_, rfl, ⟨rfl⟩⟩
                  · have hk1 : ((k : Int) == 0) = false := by simpa using hk0
                    clear hk0
                    go_wp2_with fail
                    go_meet
                    case rel => exact ⟨_, rfl, ⟨rfl⟩⟩
              case rest =>
              obtain ⟨cc, rfl, hWX⟩ := hcut
              have hWX2 := hWX.out.symm
              subst hWX2
              clear hWX
              go_upto_if 202 with (fail)
              go_cut [18] (fun s18 W => ∃ f : Int, s18 = .int .i64 f ∧ Aside0 (W = WK))
              case first =>
                have x1 := X3.out.c 1 _ rfl
                cases cc with
                | false =>
                  go_wp2_with fail
                  go_meet
                  case rel => exact ⟨f0, rfl, ⟨rfl⟩⟩
                | true =>
                  go_wp2_with fail
                  go_meet
                  case rel => exact ⟨pf, rfl, ⟨rfl⟩⟩
              case rest =>
              obtain ⟨f, rfl, hWX⟩ := hcut
              have hWX2 := hWX.out.symm
              subst hWX2
              clear hWX
              have n0 := N3.out.c 0 _ rfl; have n1 := N3.out.c 1 _ rfl
              have s0 := S3.out.c 0 _ rfl; have s1 := S3.out.c 1 _ rfl; have s2 := S3.out.c 2 _ rfl
              obtain ⟨⟨dc, df, dj, ⟨dp, da, dw⟩, dps⟩, hd⟩ : ∃ X, X = driveR n ls ⟨ap, aa, aw⟩ f := ⟨_, rfl⟩
              have HD := Aside0.mk hd.symm
              have hdv := HDV.out ls f
              rw [← hd] at hdv
              simp only at hdv
              have HDM := Aside0.mk hdv
              clear hd hdv
              go_wp2_with fail
              refine (implDrive_any n ((P0, d0), (P1, d1)) (GD, gd) ls ⟨ap, aa, aw⟩ f _ RU2.out CK.out HF.out).mono ?_
              rintro e w22 ⟨rfl, b22⟩
              rw [HD.out]
              simp only [drvV]
              clear n0 n1 s0 s1 s2
              obtain ⟨W23, hW23⟩ : ∃ W23, W23 = w22.alloc (.cells #[.int .i64 dc, .int .i64 df, .int .i64 dj, .int .i64 dp, .int .i64 da, .int .i64 dw] 44) := ⟨_, rfl⟩
              have b23 : Below w22.heap.size w22 W23 := by rw [hW23]; exact below_alloc (Below.refl _ _) _
              have D23 : Aside0 (Bx W23 w22.heap.size [.int .i64 dc, .int .i64 df, .int .i64 dj, .int .i64 dp, .int .i64 da, .int .i64 dw]) := ⟨by rw [hW23]; exact Bx.new w22 _ 44⟩
              have Q23 := Aside0.mk (below_more b22 b23)
              have X23 := Aside0.mk (X3.out.below Q23.out)
              have T23 := Aside0.mk (T3.out.below Q23.out)
              have N23 := Aside0.mk (N3.out.below Q23.out)
              have RU23 := Aside0.mk (RU2.out.below Q23.out)
              have HM23 := Aside0.mk (Kd.C_below HM2.out Q23.out)
              have B23 := Aside0.mk (below_more BK.out Q23.out)
              have HW23 := Aside0.mk hW23
              clear b22 b23 hW23
              go_upto_region 42 with (fail)
              rw [← HW23.out]
              go_cut [229] (fun s W => s = .bool false ∧ Aside0 (W = W23))
              case first =>
                have e0 := D23.out.c 0 _ rfl; have e3 := D23.out.c 3 _ rfl; have e4 := D23.out.c 4 _ rfl; have e5 := D23.out.c 5 _ rfl
                have t0 := T23.out.c 0 _ rfl; have t1 := T23.out.c 1 _ rfl; have t2 := T23.out.c 2 _ rfl
                have x0 := X23.out.c 0 _ rfl; have x1 := X23.out.c 1 _ rfl
                by_cases hdc : dc = 0
                · have hd1 : (dc == 0) = true := by simpa using hdc
                  by_cases hsp : (⟨dp, da, dw⟩ : SpotT) = ⟨bp, ba, bw⟩
                  · obtain ⟨hp1, hp2⟩ := HDM.out hdc hsp
                    subst hp1
                    injection hsp with h1 h2 h3
                    have h1' : (dp == bp) = true := by simpa using h1
                    have h2' : (da == ba) = true := by simpa using h2
                    have h3' : (dw == bw) = true := by simpa using h3
                    have hnf : ¬ f < pf := by omega
                    clear h1 h2 h3 hdc
                    go_wp2_with fail
                    go_meet
                    case rel => exact ⟨rfl, ⟨rfl⟩⟩
                  · have HSP := Aside0.mk hsp
                    clear hsp hdc
                    by_cases h1 : dp = bp
                    · have h1' : (dp == bp) = true := by simpa using h1
                      have H1 := Aside0.mk h1
                      clear h1
                      by_cases h2 : da = ba
                      · have h2' : (da == ba) = true := by simpa using h2
                        have h3' : (dw == bw) = false := by
                          have h : ¬ dw = bw := fun h3 => HSP.out (by rw [H1.out, h2, h3])
                          simpa using h
                        clear h2
                        go_wp2_with fail
                        go_meet
                        case rel => exact ⟨rfl, ⟨rfl⟩⟩
                      · have h2' : (da == ba) = false := by simpa using h2
                        clear h2
                        go_wp2_with fail
                        go_meet
                        case rel => exact ⟨rfl, ⟨rfl⟩⟩
                    · have h1' : (dp == bp) = false := by simpa using h1
                      clear h1
                      go_wp2_with fail
                      go_meet
                      case rel => exact ⟨rfl, ⟨rfl⟩⟩
                · have hd1 : (dc == 0) = false := by simpa using hdc
                  clear hdc
                  go_wp2_with fail
                  go_meet
                  case rel => exact ⟨rfl, ⟨rfl⟩⟩
              case rest =>
              obtain ⟨rfl, hWX⟩ := hcut
              have hWX2 := hWX.out.symm
              subst hWX2
              clear hWX
              have hy1 := byteV_bd HG1.out k
              have hy2 := byteV_bd HG1.out (k + 1)
              obtain ⟨y1, hy1e⟩ : ∃ y, y = byteV more k := ⟨_, rfl⟩
              obtain ⟨y2, hy2e⟩ : ∃ y, y = byteV more (k + 1) := ⟨_, rfl⟩
              rw [← hy1e] at hy1
              rw [← hy2e] at hy2
              have hw1 : IntKind.i64.wrap ((k : Int) + 1) = ((k + 1 : Nat) : Int) := by rw [wrap64 (by omega) (by omega)]; push_cast; rfl
              have hw2 : IntKind.u8.wrap (k : Int) = (k : Int) := wrap8s (by omega) (by omega)
              have hw3 : IntKind.u8.wrap y1 = y1 := wrap8s hy1.1 hy1.2
              have hw4 : IntKind.u8.wrap y2 = y2 := wrap8s hy2.1 hy2.2
              have HY1 := Aside0.mk hy1e
              have HY2 := Aside0.mk hy2e
              have HGC : Aside0 (GCode [y1, (k : Int), y2]) := ⟨by
                intro y hy
                simp at hy
                rcases hy with rfl | rfl | rfl
                · exact hy1
                · omega
                · exact hy2⟩
              have HSL : Aside0 (∀ W, Below W23.heap.size W23 W → (Below W23.heap.size W23 W ∧ W.cell? ⟨w1.heap.size, 0, none⟩ = some (.slice P0 n.pieces.length d0) ∧ W.cell? ⟨w1.heap.size, 1, none⟩ = some (.slice P1 n.joints.length d1))) := ⟨fun W hb => ⟨hb, (N23.out.below hb).c 0 _ rfl, (N23.out.below hb).c 1 _ rfl⟩⟩
              clear hy1 hy2 hy1e hy2e
              go_upto_region 44 with (fail)
              go_region_held3 (fun W => Below W23.heap.size W23 W ∧ W.cell? ⟨w1.heap.size, 0, none⟩ = some (.slice P0 n.pieces.length d0) ∧ W.cell? ⟨w1.heap.size, 1, none⟩ = some (.slice P1 n.joints.length d1))
                (first | (with_reducible assumption) | (with_reducible exact HSL.out _ (by with_reducible assumption)) | (with_reducible exact HSL.out _ (by first | (with_reducible assumption) | (with_reducible exact Below.drew (Below.refl _ _)) | (repeat (first | (with_reducible assumption) | (with_reducible refine below_alloc ?_ _) | (with_reducible refine below_drew ?_) | (with_reducible exact Below.refl _ _))))))
                (first
                  | (go_at_call 62; go_split_ands; (with_reducible refine Calls.mono (wByte_any more A1 c1 k _ _ (Kd.C_below HM23.out (by first | (with_reducible assumption) | (with_reducible exact Below.drew (Below.refl _ _)) | (repeat (first | (with_reducible assumption) | (with_reducible refine below_alloc ?_ _) | (with_reducible refine below_drew ?_) | (with_reducible exact Below.refl _ _))))) HG1.out rfl (by omega) hlm) ?_); rintro e q0 ⟨rfl, rfl⟩; rw [← HY1.out])
                  | (go_at_call 62; go_split_ands; (with_reducible refine Calls.mono (wByte_any more A1 c1 (k + 1) _ _ (Kd.C_below HM23.out (by first | (with_reducible assumption) | (with_reducible exact Below.drew (Below.refl _ _)) | (repeat (first | (with_reducible assumption) | (with_reducible refine below_alloc ?_ _) | (with_reducible refine below_drew ?_) | (with_reducible exact Below.refl _ _))))) HG1.out rfl (by omega) hlm) ?_); rintro e q0 ⟨rfl, rfl⟩; rw [← HY2.out])
                  | (go_at_call 35; go_split_ands; (with_reducible refine Calls.mono (lies_any n ((P0, d0), (P1, d1)) [y1, (k : Int), y2] _ 3 _ (RU23.out.below (by first | (with_reducible assumption) | (with_reducible exact Below.drew (Below.refl _ _)) | (repeat (first | (with_reducible assumption) | (with_reducible refine below_alloc ?_ _) | (with_reducible refine below_drew ?_) | (with_reducible exact Below.refl _ _))))) hj120 (by first | exact C_u8s3 _ _ _ _ | exact Kd.C_drew (C_u8s3 _ _ _ _)) HGC.out) ?_); rintro e q0 ⟨v1, rfl, rv, b3⟩; obtain ⟨LA2, lc2, rfl, _, rl⟩ := Kd.R_reads rv; have hq : Below W23.heap.size W23 q0 := below_more (by first | (with_reducible assumption) | (with_reducible exact Below.drew (Below.refl _ _)) | (repeat (first | (with_reducible assumption) | (with_reducible refine below_alloc ?_ _) | (with_reducible refine below_drew ?_) | (with_reducible exact Below.refl _ _)))) b3; have HQ := Aside0.mk hq; have RL2 := Aside0.mk rl; clear b3 rv rl))
              all_goals
                try go_wp2_with fail
                go_roundw
                case rel => exact ⟨k + 1, _, LA2, lc2, by go_num, rfl, by omega, RL2, ⟨below_more B23.out HQ.out⟩⟩
                case measure => simp [intOf]; omega
            · have hge6 : ¬ (k : Int) < 6 := by omega
              have BE := Aside0.mk (below_more FB.out BK.out)
              go_wp2_with fail
              go_ret
              exact ⟨rfl, BE.out⟩
end Go.Proofs.Ytckcffjnffcjcaa
