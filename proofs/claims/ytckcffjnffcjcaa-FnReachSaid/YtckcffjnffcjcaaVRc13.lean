/- Texts of this work, of each what the claim leans on: WFnReach. No conditions. -/
import Derived.Test.YtckcffjnffcjcaaVRc12
import Derived.Deep.RegionHeld3
set_option linter.unusedVariables false
set_option linter.unusedSimpArgs false
namespace Go.Proofs.Ytckcffjnffcjcaa
open Go.RowKit Go.Proofs.YtckcffjnffcjcaaW.PrintWords
theorem wrap8u {x : Int} (h0 : 0 ≤ x) (h1 : x ≤ 255) : IntKind.u8.wrap x = x := by
  unfold IntKind.wrap
  simp [IntKind.bits, IntKind.signed]
  omega
theorem C_u8x3 (W : World) (x y z : Int) : Kd.C (Kd.int .u8) (W.alloc (.cells #[.int .u8 x, .int .u8 y, .int .u8 z] 5)) (some ⟨W.heap.size, 0, none⟩) 3 [x, y, z] := by
  refine ⟨rfl, by omega, fun _ => ⟨_, rfl, fun j p hj => ?_⟩⟩
  have hx := Bx.new W [.int .u8 x, .int .u8 y, .int .u8 z] 5
  have hj2 : j < 3 := by
    have := (List.getElem?_eq_some_iff.1 hj).1
    simpa using this
  rcases (by omega : j = 0 ∨ j = 1 ∨ j = 2) with rfl | rfl | rfl
  · injection hj with hj; subst hj; exact ⟨[.int .u8 x], rfl, rfl, fun i v hv => by
      have hi : i = 0 := by have := (List.getElem?_eq_some_iff.1 hv).1; simpa using this
      subst hi; injection hv with hv; subst hv; exact hx.c 0 _ rfl⟩
  · injection hj with hj; subst hj; exact ⟨[.int .u8 y], rfl, rfl, fun i v hv => by
      have hi : i = 0 := by have := (List.getElem?_eq_some_iff.1 hv).1; simpa using this
      subst hi; injection hv with hv; subst hv; exact hx.c 1 _ rfl⟩
  · injection hj with hj; subst hj; exact ⟨[.int .u8 z], rfl, rfl, fun i v hv => by
      have hi : i = 0 := by have := (List.getElem?_eq_some_iff.1 hv).1; simpa using this
      subst hi; injection hv with hv; subst hv; exact hx.c 2 _ rfl⟩
set_option maxRecDepth 100000 in
set_option maxHeartbeats 16000000 in
theorem FnReach_walk (u0 : Option Addr × Nat) (code : List Int) (u1 : Option Addr × Nat) (more : List Int) (w : World) (e0 : Kd.C (Kd.int .u8) w u0.1 code.length code ∧ code.length ≤ u0.2) (g0 : code.length ≤ 9223372036854775807 ∧ ∀ y ∈ code, 0 ≤ y ∧ y ≤ 255) (e1 : Kd.C (Kd.int .u8) w u1.1 more.length more ∧ more.length ≤ u1.2) (g1 : more.length ≤ 9223372036854775807 ∧ ∀ y ∈ more, 0 ≤ y ∧ y ≤ 255) :
    Calls Try.prog 25 #[.slice u0.1 code.length u0.2, .slice u1.1 more.length u1.2] w fun e w' => e = .returned (.bool true) ∧ Below w.heap.size w w' := by
  have hm0 := g0.1
  have hm1 := g1.1
  have hg0 : GCode code := g0.2
  have hg1 : GCode more := g1.2
  have HC := Aside0.mk e0.1
  have HM := Aside0.mk e1.1
  obtain ⟨A0, c0⟩ := u0
  obtain ⟨A1, c1⟩ := u1
  simp only at HC HM ⊢
  clear e0 e1 g0 g1
  by_cases hl0 : (1048576 : Int) < (code.length : Int)
  · go_enter Try.func25, Try.ntmps25
    go_wp2
    go_ret
    exact ⟨rfl, Below.refl _ _⟩
  by_cases hl1 : (1048576 : Int) < (more.length : Int)
  · go_enter Try.func25, Try.ntmps25
    go_wp2
    go_ret
    exact ⟨rfl, Below.refl _ _⟩
  have hlm : more.length ≤ 1048576 := by omega
  have hlc : code.length ≤ 1048576 := by omega
  obtain ⟨n, hn⟩ : ∃ n, n = netG code := ⟨_, rfl⟩
  have hgd : netGood n = true := by rw [hn]; exact netG_good code
  have hgood := Good.of hgd
  have hfit : NetFits n := by rw [hn]; exact netG_fits code
  have HGD := Aside0.mk hgd
  have HG := Aside0.mk hgood
  have HF := Aside0.mk hfit
  have HN := Aside0.mk hn
  have hj120 := hgood.j1
  obtain ⟨⟨sp, sa, sw⟩, hs⟩ : ∃ s, s = spotG n more := ⟨_, rfl⟩
  have hsb : spotB n ⟨sp, sa, sw⟩ = true := by rw [hs]; exact spotG_ok hgood more
  have HS := Aside0.mk hs
  have HSB := Aside0.mk hsb
  have hab := wholeV_bd hg1 3
  obtain ⟨a, ha⟩ : ∃ a, a = wholeV more 3 := ⟨_, rfl⟩
  rw [← ha] at hab
  have HA := Aside0.mk ha
  obtain ⟨F, hF⟩ : ∃ F, F = a % 2000 := ⟨_, rfl⟩
  have hFb : 0 ≤ F ∧ F < 2000 := by rw [hF]; omega
  have htm : a.tmod 2000 = F := by rw [hF, Int.tmod_eq_emod_of_nonneg hab.1]
  have hrB : reachB n ⟨sp, sa, sw⟩ F = true := by unfold reachB spotOkB; rw [hgd, hsb, inB_true.2 (by omega)]; rfl
  obtain ⟨L, hL⟩ : ∃ L, L = reachV n ⟨sp, sa, sw⟩ F := ⟨_, rfl⟩
  have HNR : Aside0 (∀ x ∈ L, (shortestV n ⟨sp, sa, sw⟩ x).ok = true ∧ (shortestV n ⟨sp, sa, sw⟩ x).far ≤ F) := ⟨fun x hx => by rw [hL] at hx; exact reach_near hx⟩
  have HDV : Aside0 (∀ ls, liesB n ls = true → 0 < L.length → (driveR n ls ⟨sp, sa, sw⟩ F).code = 0 → (driveR n ls ⟨sp, sa, sw⟩ F).spot ∈ L) := ⟨fun ls h1 h2 h3 => by rw [hL] at h2 ⊢; exact reach_drive hrB h1 h2 h3⟩
  have HLL := Aside0.mk hL
  have HFB := Aside0.mk hFb
  have HG1 := Aside0.mk hg1
  have HG0 := Aside0.mk hg0
  clear hs hsb hn hgd hgood hfit ha hF hrB hL
  go_enter Try.func25, Try.ntmps25
  go_wp2_with fail
  refine (nets_of code A0 c0 n _ HC.out hg0 HN.out).mono ?_
  rintro e w1 ⟨u, rfl, ru, b1⟩
  have RU := Aside0.mk ru
  obtain ⟨⟨P0, d0⟩, ⟨P1, d1⟩⟩ := u
  replace HC := Aside0.mk (Kd.C_below HC.out b1)
  replace HM := Aside0.mk (Kd.C_below HM.out b1)
  obtain ⟨W2, hW2⟩ : ∃ W2, W2 = w1.alloc (.cells #[.slice P0 n.pieces.length d0, .slice P1 n.joints.length d1] 35) := ⟨_, rfl⟩
  have b2 : Below w1.heap.size w1 W2 := by rw [hW2]; exact below_alloc (Below.refl _ _) _
  have N2 : Aside0 (Bx W2 w1.heap.size [.slice P0 n.pieces.length d0, .slice P1 n.joints.length d1]) := ⟨by rw [hW2]; exact Bx.new w1 _ 35⟩
  replace RU := Aside0.mk (RU.out.below b2)
  replace HC := Aside0.mk (Kd.C_below HC.out b2)
  replace HM := Aside0.mk (Kd.C_below HM.out b2)
  have FB := Aside0.mk (below_more b1 b2)
  have HW2 := Aside0.mk hW2
  have n0 := N2.out.c 0 _ rfl; have n1 := N2.out.c 1 _ rfl
  clear ru b1 b2 hW2
  go_upto_region 4 with (fail)
  rw [← HW2.out]
  go_wp2_with fail
  refine (aspot_any n ((P0, d0), (P1, d1)) more A1 c1 _ RU.out HG.out HM.out hg1).mono ?_
  rintro e w3 ⟨rfl, b3⟩
  rw [← HS.out]
  simp only
  obtain ⟨W4, hW4⟩ : ∃ W4, W4 = w3.alloc (.cells #[.int .i64 sp, .int .i64 sa, .int .i64 sw] 38) := ⟨_, rfl⟩
  have b4 : Below w3.heap.size w3 W4 := by rw [hW4]; exact below_alloc (Below.refl _ _) _
  have S4 : Aside0 (Bx W4 w3.heap.size [.int .i64 sp, .int .i64 sa, .int .i64 sw]) := ⟨by rw [hW4]; exact Bx.new w3 _ 38⟩
  replace RU := Aside0.mk ((RU.out.below b3).below b4)
  replace HC := Aside0.mk (Kd.C_below (Kd.C_below HC.out b3) b4)
  replace HM := Aside0.mk (Kd.C_below (Kd.C_below HM.out b3) b4)
  replace N2 := Aside0.mk ((N2.out.below b3).below b4)
  replace FB := Aside0.mk (below_more (below_more FB.out b3) b4)
  have HW4 := Aside0.mk hW4
  clear b3 b4 hW4 n0 n1
  go_upto_region 5 with (fail)
  rw [← HW4.out]
  go_wp2_with fail
  refine (wWhole_any more A1 c1 3 _ _ HM.out hg1 rfl (by omega) hlm).mono ?_
  rintro e w5 ⟨rfl, rfl⟩
  rw [← HA.out]
  have n0 := N2.out.c 0 _ rfl; have n1 := N2.out.c 1 _ rfl
  have s0 := S4.out.c 0 _ rfl; have s1 := S4.out.c 1 _ rfl; have s2 := S4.out.c 2 _ rfl
  go_wp2_with fail
  refine (implReach_any n ((P0, d0), (P1, d1)) ⟨sp, sa, sw⟩ F _ RU.out HF.out).mono ?_
  rintro e w6 ⟨v6, rfl, r6, b6⟩
  rw [← HLL.out] at r6
  obtain ⟨QA, qc, eq6⟩ := Kd.R_slice r6
  subst eq6
  have R6 := Aside0.mk (Kd.R_reads' r6).2.2
  replace RU := Aside0.mk (RU.out.below b6)
  replace HC := Aside0.mk (Kd.C_below HC.out b6)
  replace HM := Aside0.mk (Kd.C_below HM.out b6)
  replace N2 := Aside0.mk (N2.out.below b6)
  replace S4 := Aside0.mk (S4.out.below b6)
  replace FB := Aside0.mk (below_more FB.out b6)
  clear n0 n1 s0 s1 s2 b6 r6
  have n0 := N2.out.c 0 _ rfl; have n1 := N2.out.c 1 _ rfl
  have s0 := S4.out.c 0 _ rfl; have s1 := S4.out.c 1 _ rfl; have s2 := S4.out.c 2 _ rfl
  go_wp2_with fail
  refine (specReach_any n ((P0, d0), (P1, d1)) ⟨sp, sa, sw⟩ F _ RU.out HF.out).mono ?_
  rintro e w7 ⟨v7, rfl, r7, b7⟩
  rw [← HLL.out] at r7
  obtain ⟨TA, tc, eq7⟩ := Kd.R_slice r7
  subst eq7
  have R7 := Aside0.mk (Kd.R_reads' r7).2.2
  replace R6 := Aside0.mk (Kd.C_below R6.out b7)
  replace RU := Aside0.mk (RU.out.below b7)
  replace HC := Aside0.mk (Kd.C_below HC.out b7)
  replace HM := Aside0.mk (Kd.C_below HM.out b7)
  replace N2 := Aside0.mk (N2.out.below b7)
  replace S4 := Aside0.mk (S4.out.below b7)
  replace FB := Aside0.mk (below_more FB.out b7)
  clear n0 n1 s0 s1 s2 b7 r7
  have hLb : L.length ≤ 1000000000000 := by rw [HLL.out]; exact reachV_len ..
  have hnn : ((L.length : Int) != (L.length : Int)) = false := by simp
  obtain ⟨W7, hW7⟩ : ∃ W7, W7 = w7 := ⟨_, rfl⟩
  subst hW7
  go_wp2_with fail
  go_loopw [49] (fun v49 wr => ∃ (i : Nat), v49 = .int .i64 (i : Int) ∧ i ≤ L.length ∧ Aside0 (Below W7.heap.size W7 wr)) (fun v49 _ => L.length - (intOf v49).toNat)
  case atStart => exact ⟨0, rfl, Nat.zero_le _, ⟨Below.refl _ _⟩⟩
  case round =>
    obtain ⟨i, rfl, hi, B1⟩ := hrel
    by_cases hlt : i < L.length
    · obtain ⟨W8, hW8⟩ : ∃ W8 : World, W8 = wr := ⟨_, rfl⟩
      subst hW8
      obtain ⟨ad6, ea6, x0, x1, x2⟩ := at_Spot (Kd.C_below R6.out B1.out) i hlt
      obtain ⟨ad7, ea7, y0, y1, y2⟩ := at_Spot (Kd.C_below R7.out B1.out) i hlt
      subst ea6
      subst ea7
      obtain ⟨⟨xp, xa, xw⟩, hx⟩ : ∃ x, x = L.getD i default := ⟨_, rfl⟩
      have hxm : (⟨xp, xa, xw⟩ : SpotT) ∈ L := by rw [hx]; exact getD_mem L i hlt
      rw [← hx] at x0 x1 x2 y0 y1 y2
      simp only at x0 x1 x2 y0 y1 y2
      obtain ⟨hok, hfar⟩ := HNR.out _ hxm
      obtain ⟨p, hp⟩ : ∃ p, p = shortestV n ⟨sp, sa, sw⟩ ⟨xp, xa, xw⟩ := ⟨_, rfl⟩
      have HP := Aside0.mk hp
      rw [← hp] at hok hfar
      have HOK := Aside0.mk hok
      have HFA := Aside0.mk hfar
      have X0 := Aside0.mk x0; have X1 := Aside0.mk x1; have X2 := Aside0.mk x2
      have hi0 : (0 : Int) ≤ (i : Int) := by omega
      have hi1 : (i : Int) < (L.length : Int) := by omega
      have B8 := Aside0.mk (below_more FB.out B1.out)
      have N8 := Aside0.mk (N2.out.below B1.out)
      have S8 := Aside0.mk (S4.out.below B1.out)
      have RU8 := Aside0.mk (RU.out.below B1.out)
      clear hx hxm hok hfar hp
      go_upto_region 13 with (fail)
      go_cut [60] (fun s W => s = .bool false ∧ Aside0 (Below W8.heap.size W8 W))
      case first =>
        go_quiet (fail)
        all_goals
          try go_wp2_with fail
          go_meet
          case rel => exact ⟨rfl, ⟨below_drewN' (Below.refl _ _) _⟩⟩
      case rest =>
      obtain ⟨rfl, B9⟩ := hcut
      obtain ⟨W9, hW9⟩ : ∃ W9, W9 = wc := ⟨_, rfl⟩
      subst hW9
      clear x0 x1 x2 y0 y1 y2
      have B9' := Aside0.mk (below_more B1.out B9.out)
      have HS0 : Aside0 (∀ W, Below W9.heap.size W9 W → (Below W9.heap.size W9 W ∧ W.cell? ⟨w1.heap.size, 0, none⟩ = some (.slice P0 n.pieces.length d0) ∧ W.cell? ⟨w1.heap.size, 1, none⟩ = some (.slice P1 n.joints.length d1) ∧ W.cell? ⟨w3.heap.size, 0, none⟩ = some (.int .i64 sp) ∧ W.cell? ⟨w3.heap.size, 1, none⟩ = some (.int .i64 sa) ∧ W.cell? ⟨w3.heap.size, 2, none⟩ = some (.int .i64 sw) ∧ W.cell? (ad6.add (i * 3)) = some (.int .i64 xp) ∧ W.cell? ⟨(ad6.add (i * 3)).block, (ad6.add (i * 3)).off + 1, none⟩ = some (.int .i64 xa) ∧ W.cell? ⟨(ad6.add (i * 3)).block, (ad6.add (i * 3)).off + 2, none⟩ = some (.int .i64 xw))) := ⟨fun W hb => ⟨hb, ((N8.out.below B9.out).below hb).c 0 _ rfl, ((N8.out.below B9.out).below hb).c 1 _ rfl, ((S8.out.below B9.out).below hb).c 0 _ rfl, ((S8.out.below B9.out).below hb).c 1 _ rfl, ((S8.out.below B9.out).below hb).c 2 _ rfl, pw_cell_below hb (pw_cell_below B9.out X0.out), pw_cell_below hb (pw_cell_below B9.out X1.out), pw_cell_below hb (pw_cell_below B9.out X2.out)⟩⟩
      go_upto_region 15 with (fail)
      go_cut [11] (fun s11 W => ∃ bn SA sl sc TA2 tl tc2, s11 = .pointer (some ⟨bn, 0, none⟩) ∧ Aside0 (Bx W bn [.bool p.ok, .int .i64 p.far, .slice SA sl sc, .slice TA2 tl tc2]) ∧ Aside0 (Below W9.heap.size W9 W))
      case first =>
        go_region_held3 (fun W => Below W9.heap.size W9 W ∧ W.cell? ⟨w1.heap.size, 0, none⟩ = some (.slice P0 n.pieces.length d0) ∧ W.cell? ⟨w1.heap.size, 1, none⟩ = some (.slice P1 n.joints.length d1) ∧ W.cell? ⟨w3.heap.size, 0, none⟩ = some (.int .i64 sp) ∧ W.cell? ⟨w3.heap.size, 1, none⟩ = some (.int .i64 sa) ∧ W.cell? ⟨w3.heap.size, 2, none⟩ = some (.int .i64 sw) ∧ W.cell? (ad6.add (i * 3)) = some (.int .i64 xp) ∧ W.cell? ⟨(ad6.add (i * 3)).block, (ad6.add (i * 3)).off + 1, none⟩ = some (.int .i64 xa) ∧ W.cell? ⟨(ad6.add (i * 3)).block, (ad6.add (i * 3)).off + 2, none⟩ = some (.int .i64 xw))
          (first | (with_reducible assumption) | (with_reducible exact HS0.out _ (by with_reducible assumption)) | (with_reducible exact HS0.out _ (by repeat (first | (with_reducible assumption) | (with_reducible refine below_set ?_ (Below.size (by with_reducible assumption))) | (with_reducible refine below_set ?_ (Nat.le_refl _)) | (with_reducible refine below_set ?_ (by omega)) | (with_reducible refine below_alloc ?_ _) | (with_reducible exact Below.refl _ _) | (with_reducible refine below_drew ?_)))))
          (first
            | (go_at_call 90; go_split_ands; (with_reducible refine Calls.mono (implShortest_any n ((P0, d0), (P1, d1)) ⟨sp, sa, sw⟩ ⟨xp, xa, xw⟩ _ ((RU8.out.below B9.out).below (by first | (with_reducible assumption) | exact below_drew (below_alloc (Below.refl _ _) _))) HF.out) ?_); rintro e q0 ⟨sv, lv, rfl, r1, r2, b3⟩; rw [← HP.out]; rw [← HP.out] at r1 r2; obtain ⟨SA, sc, es⟩ := Kd.R_slice r1; obtain ⟨TA2, tc2, et⟩ := Kd.R_slice r2; subst es; subst et; have hq : Below W9.heap.size W9 q0 := below_more (by assumption) b3; have hz := hq.size; (first | (with_reducible have XX := Aside0.mk ((Bx.new _ [.bool false, .int .i64 0, .slice none 0 0, .slice none 0 0] 108).below b3)) | (with_reducible have XX := Aside0.mk ((Bx.drew (Bx.new _ [.bool false, .int .i64 0, .slice none 0 0, .slice none 0 0] 108)).below b3)) | skip); (first | (have xx0 := XX.out.c 0 _ rfl; have xf0 := XX.out.f 0; have xx1 := XX.out.c 1 _ rfl; have xf1 := XX.out.f 1; have xx2 := XX.out.c 2 _ rfl; have xf2 := XX.out.f 2; have xx3 := XX.out.c 3 _ rfl; have xf3 := XX.out.f 3; have xxl := XX.out.lt) | skip); have HQ := Aside0.mk hq; clear b3 r1 r2))
        all_goals
          try go_wp2_with fail
          go_meet
          case rel =>
            first
              | (with_reducible refine ⟨_, _, _, _, _, _, _, rfl, ⟨Bx.new' _ _ _ rfl⟩, ⟨below_alloc HQ.out _⟩⟩; done)
              | (refine ⟨_, SA, p.steps.length, sc, TA2, p.lies.length, tc2, rfl, ⟨?_⟩, ⟨?_⟩⟩
                 · exact ((((XX.out.set (i := 0) (by simp) _).set (i := 1) (by simp) _).set (i := 2) (by simp) _).set (i := 3) (by simp) _)
                 · repeat (first | (with_reducible exact HQ.out) | (with_reducible refine below_set ?_ (Below.size (by with_reducible assumption))) | (with_reducible refine below_set ?_ (Nat.le_refl _)) | (with_reducible refine below_set ?_ (by omega)) | (with_reducible refine below_alloc ?_ _)))
      case rest =>
      obtain ⟨bn, SA, sl, sc, TA2, tl, tc2, rfl, XX, B10⟩ := hcut
      have x0 := XX.out.c 0 _ rfl; have x1 := XX.out.c 1 _ rfl
      rw [HOK.out] at x0
      have hnf : ¬ F < p.far := by have := HFA.out; omega
      have hnf2 : p.far ≤ F := HFA.out
      go_wp2_with fail
      go_roundw
      case rel => exact ⟨i + 1, by go_num, by omega, ⟨below_more B9'.out B10.out⟩⟩
      case measure => simp [intOf]; omega
    · have hge : ¬ (i : Int) < (L.length : Int) := by omega
      by_cases hl0 : L.length = 0
      · have e0 : ((L.length : Int) == 0) = true := by simp [hl0]
        have BF := Aside0.mk (below_more FB.out B1.out)
        clear hi hl0
        go_wp2_with fail
        go_ret
        exact ⟨rfl, BF.out⟩
      · have e0 : ((L.length : Int) == 0) = false := by simpa using hl0
        have HLP := Aside0.mk (show 0 < L.length by omega)
        clear hi hl0
        obtain ⟨W8, hW8⟩ : ∃ W8 : World, W8 = wr := ⟨_, rfl⟩
        subst hW8
        have BF := Aside0.mk (below_more FB.out B1.out)
        have N8 := Aside0.mk (N2.out.below B1.out)
        have S8 := Aside0.mk (S4.out.below B1.out)
        have RU8 := Aside0.mk (RU.out.below B1.out)
        have HC8 := Aside0.mk (Kd.C_below HC.out B1.out)
        have HM8 := Aside0.mk (Kd.C_below HM.out B1.out)
        have R68 := Aside0.mk (Kd.C_below R6.out B1.out)
        go_wp2_with fail
        go_loopw [12] (fun v12 wr => ∃ (k : Nat), v12 = .int .i64 (k : Int) ∧ k ≤ 5 ∧ Aside0 (Below W8.heap.size W8 wr)) (fun v12 _ => 5 - (intOf v12).toNat)
        case atStart => exact ⟨0, rfl, by omega, ⟨Below.refl _ _⟩⟩
        case round =>
          obtain ⟨k, rfl, hk, B2⟩ := hrel
          by_cases hlt2 : k < 5
          · obtain ⟨W10, hW10⟩ : ∃ W10 : World, W10 = wr := ⟨_, rfl⟩
            subst hW10
            have B10 := Aside0.mk (below_more BF.out B2.out)
            have N10 := Aside0.mk (N8.out.below B2.out)
            have S10 := Aside0.mk (S8.out.below B2.out)
            have RU10 := Aside0.mk (RU8.out.below B2.out)
            have HC10 := Aside0.mk (Kd.C_below HC8.out B2.out)
            have HM10 := Aside0.mk (Kd.C_below HM8.out B2.out)
            have R610 := Aside0.mk (Kd.C_below R68.out B2.out)
            have hy1 := byteV_bd HG1.out k
            have hy2 := byteV_bd HG0.out k
            obtain ⟨y1, hy1e⟩ : ∃ y, y = byteV more k := ⟨_, rfl⟩
            obtain ⟨y2, hy2e⟩ : ∃ y, y = byteV code k := ⟨_, rfl⟩
            rw [← hy1e] at hy1
            rw [← hy2e] at hy2
            obtain ⟨m7, hm7⟩ : ∃ m, m = 7 * (k : Int) := ⟨_, rfl⟩
            have hw1 : IntKind.i64.wrap (7 * (k : Int)) = m7 := by rw [← hm7]; exact wrap64 (by omega) (by omega)
            have hw2 : IntKind.u8.wrap m7 = m7 := wrap8u (by omega) (by omega)
            have hw3 : IntKind.u8.wrap y1 = y1 := wrap8u hy1.1 hy1.2
            have hw4 : IntKind.u8.wrap y2 = y2 := wrap8u hy2.1 hy2.2
            have HY1 := Aside0.mk hy1e
            have HY2 := Aside0.mk hy2e
            have HGC : Aside0 (GCode [y1, y2, m7]) := ⟨by
              intro y hy
              simp at hy
              rcases hy with rfl | rfl | rfl
              · exact hy1
              · exact hy2
              · omega⟩
            have HLO : Aside0 (liesB n (liesG n [y1, y2, m7]) = true) := ⟨liesG_ok n _⟩
            have hk5 : (k : Int) < 5 := by omega
            have HSL : Aside0 (∀ W, Below W10.heap.size W10 W → (Below W10.heap.size W10 W ∧ W.cell? ⟨w1.heap.size, 0, none⟩ = some (.slice P0 n.pieces.length d0) ∧ W.cell? ⟨w1.heap.size, 1, none⟩ = some (.slice P1 n.joints.length d1))) := ⟨fun W hb => ⟨hb, (N10.out.below hb).c 0 _ rfl, (N10.out.below hb).c 1 _ rfl⟩⟩
            clear hy1 hy2 hy1e hy2e hm7
            go_upto_region 24 with (fail)
            go_cut [13] (fun s13 W => ∃ ls LA lc, s13 = .slice LA ls.length lc ∧ Aside0 (liesB n ls = true) ∧ Aside0 (Kd.C (Kd.int .i64) W LA ls.length ls) ∧ Aside0 (Below W10.heap.size W10 W))
            case first =>
              go_region_held3 (fun W => Below W10.heap.size W10 W ∧ W.cell? ⟨w1.heap.size, 0, none⟩ = some (.slice P0 n.pieces.length d0) ∧ W.cell? ⟨w1.heap.size, 1, none⟩ = some (.slice P1 n.joints.length d1))
                (first | (with_reducible assumption) | (with_reducible exact HSL.out _ (by with_reducible assumption)) | (with_reducible exact HSL.out _ (by first | (with_reducible assumption) | (with_reducible exact Below.drew (Below.refl _ _)) | (repeat (first | (with_reducible assumption) | (with_reducible refine below_alloc ?_ _) | (with_reducible refine below_drew ?_) | (with_reducible exact Below.refl _ _))))))
                (first
                  | (go_at_call 62; go_split_ands; (with_reducible refine Calls.mono (wByte_any more A1 c1 k _ _ (Kd.C_below HM10.out (by first | (with_reducible assumption) | (with_reducible exact Below.drew (Below.refl _ _)) | (repeat (first | (with_reducible assumption) | (with_reducible refine below_alloc ?_ _) | (with_reducible refine below_drew ?_) | (with_reducible exact Below.refl _ _))))) HG1.out rfl (by omega) hlm) ?_); rintro e q0 ⟨rfl, rfl⟩; rw [← HY1.out])
                  | (go_at_call 62; go_split_ands; (with_reducible refine Calls.mono (wByte_any code A0 c0 k _ _ (Kd.C_below HC10.out (by first | (with_reducible assumption) | (with_reducible exact Below.drew (Below.refl _ _)) | (repeat (first | (with_reducible assumption) | (with_reducible refine below_alloc ?_ _) | (with_reducible refine below_drew ?_) | (with_reducible exact Below.refl _ _))))) HG0.out rfl (by omega) hlc) ?_); rintro e q0 ⟨rfl, rfl⟩; rw [← HY2.out])
                  | (go_at_call 35; go_split_ands; (with_reducible refine Calls.mono (lies_any n ((P0, d0), (P1, d1)) [y1, y2, m7] _ 3 _ (RU10.out.below (by first | (with_reducible assumption) | (with_reducible exact Below.drew (Below.refl _ _)) | (repeat (first | (with_reducible assumption) | (with_reducible refine below_alloc ?_ _) | (with_reducible refine below_drew ?_) | (with_reducible exact Below.refl _ _))))) hj120 (by first | exact C_u8x3 _ _ _ _ | exact Kd.C_drew (C_u8x3 _ _ _ _)) HGC.out) ?_); rintro e q0 ⟨v1, rfl, rv, b3⟩; obtain ⟨LA, lc, rfl, _, rl⟩ := Kd.R_reads rv; have hq : Below W10.heap.size W10 q0 := below_more (by first | (with_reducible assumption) | (with_reducible exact Below.drew (Below.refl _ _)) | (repeat (first | (with_reducible assumption) | (with_reducible refine below_alloc ?_ _) | (with_reducible refine below_drew ?_) | (with_reducible exact Below.refl _ _)))) b3; have HQ := Aside0.mk hq; have RL := Aside0.mk rl; clear b3 rv rl))
              all_goals
                try go_wp2_with fail
                go_meet
                case rel => exact ⟨_, _, _, rfl, HLO, RL, HQ⟩
            case rest =>
            obtain ⟨ls, LA, lc, rfl, HLS, RL, B11⟩ := hcut
            obtain ⟨W11, hW11⟩ : ∃ W11, W11 = wc := ⟨_, rfl⟩
            subst hW11
            have N11 := Aside0.mk (N10.out.below B11.out)
            have S11 := Aside0.mk (S10.out.below B11.out)
            have RU11 := Aside0.mk (RU10.out.below B11.out)
            clear hw1 hw2 hw3 hw4
            have n0 := N11.out.c 0 _ rfl; have n1 := N11.out.c 1 _ rfl
            have s0 := S11.out.c 0 _ rfl; have s1 := S11.out.c 1 _ rfl; have s2 := S11.out.c 2 _ rfl
            obtain ⟨⟨dc, df, dj, ⟨dp, da, dw⟩, dps⟩, hd⟩ : ∃ X, X = driveR n ls ⟨sp, sa, sw⟩ F := ⟨_, rfl⟩
            have HD := Aside0.mk hd.symm
            have hdv := HDV.out ls HLS.out HLP.out
            rw [← hd] at hdv
            simp only at hdv
            have HDM := Aside0.mk hdv
            clear hd hdv
            go_wp2_with fail
            refine (implDrive_any n ((P0, d0), (P1, d1)) (LA, lc) ls ⟨sp, sa, sw⟩ F _ RU11.out RL.out HF.out).mono ?_
            rintro e w12 ⟨rfl, b12⟩
            rw [HD.out]
            simp only [drvV]
            clear n0 n1 s0 s1 s2
            obtain ⟨W13, hW13⟩ : ∃ W13, W13 = w12.alloc (.cells #[.int .i64 dc, .int .i64 df, .int .i64 dj, .int .i64 dp, .int .i64 da, .int .i64 dw] 44) := ⟨_, rfl⟩
            have b13 : Below w12.heap.size w12 W13 := by rw [hW13]; exact below_alloc (Below.refl _ _) _
            have D13 : Aside0 (Bx W13 w12.heap.size [.int .i64 dc, .int .i64 df, .int .i64 dj, .int .i64 dp, .int .i64 da, .int .i64 dw]) := ⟨by rw [hW13]; exact Bx.new w12 _ 44⟩
            have Q13 := Aside0.mk (below_more (below_more B11.out b12) b13)
            have BK := Aside0.mk (below_more B2.out Q13.out)
            have R613 := Aside0.mk (Kd.C_below R610.out Q13.out)
            have HW13 := Aside0.mk hW13
            clear b12 b13 hW13
            go_upto_region 26 with (fail)
            rw [← HW13.out]
            have d0' := D13.out.c 0 _ rfl
            by_cases hdc : dc = 0
            · have e1 : (dc != 0) = false := by simp [hdc]
              have HMEM := Aside0.mk (HDM.out hdc)
              clear hdc
              go_wp2_with fail
              go_loopw [15, 109] (fun v15 v109 wr => ∃ (j : Nat) (b : Bool), v109 = .int .i64 (j : Int) ∧ v15 = .bool b ∧ j ≤ L.length ∧ Aside0 (b = inL (L.take j) (⟨dp, da, dw⟩ : SpotT)) ∧ Aside0 (Below W13.heap.size W13 wr)) (fun _ v109 _ => L.length - (intOf v109).toNat)
              case atStart => exact ⟨0, false, rfl, rfl, Nat.zero_le _, ⟨(inL_nil _ _).symm⟩, ⟨Below.refl _ _⟩⟩
              case round =>
                obtain ⟨j, b, rfl, rfl, hj, HBJ, BJ⟩ := hrel
                by_cases hlt4 : j < L.length
                · obtain ⟨ad4, e4, y0, y1, y2⟩ := at_Spot (Kd.C_below R613.out BJ.out) j hlt4
                  subst e4
                  obtain ⟨⟨yp, ya, yw⟩, hy⟩ : ∃ y, y = L.getD j default := ⟨_, rfl⟩
                  rw [← hy] at y0 y1 y2
                  simp only at y0 y1 y2
                  have HBN := Aside0.mk (inL_next L (⟨dp, da, dw⟩ : SpotT) (⟨yp, ya, yw⟩ : SpotT) j hlt4 hy)
                  have hj0 : (0 : Int) ≤ (j : Int) := by omega
                  have hj1 : (j : Int) < (L.length : Int) := by omega
                  have B5 := Aside0.mk (below_alloc BJ.out (.cells #[.int .i64 yp, .int .i64 ya, .int .i64 yw] 38))
                  have X5 := Aside0.mk (D13.out.below B5.out)
                  have Y5 := Aside0.mk (Bx.new wr [.int .i64 yp, .int .i64 ya, .int .i64 yw] 38)
                  clear hy
                  cases b with
                  | true =>
                    go_wp2_with fail
                    go_roundw
                    case rel => exact ⟨j + 1, true, by go_num, rfl, by omega, ⟨(inL_was HBN.out HBJ.out).symm⟩, B5⟩
                    case measure => simp [intOf]; omega
                  | false =>
                    have x3 := X5.out.c 3 _ rfl; have x4 := X5.out.c 4 _ rfl; have x5 := X5.out.c 5 _ rfl
                    have z0 := Y5.out.c 0 _ rfl; have z1 := Y5.out.c 1 _ rfl; have z2 := Y5.out.c 2 _ rfl
                    by_cases hpq : (⟨yp, ya, yw⟩ : SpotT) = ⟨dp, da, dw⟩
                    · have HV := Aside0.mk (inL_yes HBN.out hpq)
                      injection hpq with q1 q2 q3
                      have e2 : (yp == dp) = true := by simpa using q1
                      have e3 : (ya == da) = true := by simpa using q2
                      have e5 : (yw == dw) = true := by simpa using q3
                      clear q1 q2 q3
                      go_wp2_with fail
                      go_roundw
                      case rel => exact ⟨j + 1, true, by go_num, rfl, by omega, ⟨HV.out.symm⟩, ⟨below_alloc BJ.out _⟩⟩
                      case measure => simp [intOf]; omega
                    · have HBN2 := Aside0.mk (inL_no HBN.out HBJ.out hpq)
                      have HPQ := Aside0.mk hpq
                      clear hpq HBN HBJ
                      go_wp2_with fail
                      all_goals first
                        | exact absurd (by rw [SpotT.mk.injEq]; exact ⟨by assumption, by assumption, by assumption⟩) HPQ.out
                        | (go_roundw
                           case rel => exact ⟨j + 1, false, by go_num, rfl, by omega, ⟨HBN2.out.symm⟩, ⟨below_alloc BJ.out _⟩⟩
                           case measure => simp [intOf]; omega)
                · have hje : j = L.length := by omega
                  have hge4 : ¬ (j : Int) < (L.length : Int) := by omega
                  have hbt : b = true := by
                    have h := HBJ.out
                    rw [hje, List.take_length] at h
                    rw [h]; unfold inL; simpa using HMEM.out
                  subst hbt
                  clear hje
                  go_wp2_with fail
                  go_roundw
                  case rel => exact ⟨k + 1, by go_num, by omega, ⟨below_more BK.out BJ.out⟩⟩
                  case measure => simp [intOf]; omega
            · have e1 : (dc != 0) = true := by simpa using hdc
              clear hdc
              go_wp2_with fail
              go_roundw
              case rel => exact ⟨k + 1, by go_num, by omega, BK⟩
              case measure => simp [intOf]; omega
          · have hge2 : ¬ (k : Int) < 5 := by omega
            have BE := Aside0.mk (below_more BF.out B2.out)
            go_wp2_with fail
            go_ret
            exact ⟨rfl, BE.out⟩
end Go.Proofs.Ytckcffjnffcjcaa
