/- Proved: a call of FnFlip returns true and changes nothing that was there, whatever it is given. No conditions. -/
import Derived.Test.YtckcffjnffcjcaaFlipC
import Derived.Deep.RegionHeld3
import Derived.Outline
set_option linter.unusedVariables false
set_option linter.unusedSimpArgs false
namespace Go.Proofs.Ytckcffjnffcjcaa
open Go.RowKit Go.Proofs.YtckcffjnffcjcaaW.PrintWords
set_option maxRecDepth 100000 in
set_option maxHeartbeats 8000000 in
theorem FnFlip_walk (u0 : Option Addr × Nat) (code : List Int) (u1 : Option Addr × Nat) (more : List Int) (w : World) (e0 : Kd.C (Kd.int .u8) w u0.1 code.length code ∧ code.length ≤ u0.2) (g0 : code.length ≤ 9223372036854775807 ∧ ∀ y ∈ code, 0 ≤ y ∧ y ≤ 255) (e1 : Kd.C (Kd.int .u8) w u1.1 more.length more ∧ more.length ≤ u1.2) (g1 : more.length ≤ 9223372036854775807 ∧ ∀ y ∈ more, 0 ≤ y ∧ y ≤ 255) :
    Calls Try.prog 13 #[.slice u0.1 code.length u0.2, .slice u1.1 more.length u1.2] w fun e w' => e = .returned (.bool true) ∧ Below w.heap.size w w' := by
  have hm0 := g0.1
  have hm1 := g1.1
  have hg0 : GCode code := g0.2
  have hg1 : GCode more := g1.2
  have HC := Aside0.mk e0.1
  have HM := Aside0.mk e1.1
  obtain ⟨A0, c0⟩ := u0
  obtain ⟨A1, c1⟩ := u1
  simp only at HC HM ⊢
  clear e0 e1 g0 g1
  by_cases hl0 : (1048576 : Int) < (code.length : Int)
  · go_enter Try.func13, Try.ntmps13
    go_wp2
    go_ret
    exact ⟨rfl, Below.refl _ _⟩
  by_cases hl1 : (1048576 : Int) < (more.length : Int)
  · go_enter Try.func13, Try.ntmps13
    go_wp2
    go_ret
    exact ⟨rfl, Below.refl _ _⟩
  have hlm : more.length ≤ 1048576 := by omega
  have hlc : code.length ≤ 1048576 := by omega
  obtain ⟨n, hn⟩ : ∃ n, n = netG code := ⟨_, rfl⟩
  have hgd : netGood n = true := by rw [hn]; exact netG_good code
  have hgood := Good.of hgd
  have hfit : NetFits n := by rw [hn]; exact netG_fits code
  have HGD := Aside0.mk hgd
  have HG := Aside0.mk hgood
  have HF := Aside0.mk hfit
  have HN := Aside0.mk hn
  have hj120 := hgood.j1
  obtain ⟨⟨sp, sa, sw⟩, hs⟩ : ∃ s, s = spotG n code := ⟨_, rfl⟩
  have hsb : spotB n ⟨sp, sa, sw⟩ = true := by rw [hs]; exact spotG_ok hgood code
  have HS := Aside0.mk hs
  have HSB := Aside0.mk hsb
  obtain ⟨ls, hls⟩ : ∃ l, l = liesG n more := ⟨_, rfl⟩
  have hlb : liesB n ls = true := by rw [hls]; exact liesG_ok n more
  have HLS := Aside0.mk hls
  have HLB := Aside0.mk hlb
  have hab := wholeV_bd hg1 3
  obtain ⟨a, ha⟩ : ∃ a, a = wholeV more 3 := ⟨_, rfl⟩
  rw [← ha] at hab
  have HA := Aside0.mk ha
  have hbv := byteV_bd hg1 0
  obtain ⟨bv, hbve⟩ : ∃ b, b = byteV more 0 := ⟨_, rfl⟩
  rw [← hbve] at hbv
  have HBV := Aside0.mk hbve
  have hp0 := hgood.p0
  obtain ⟨k, hk⟩ : ∃ k, k = Int.tmod bv (n.pieces.length : Int) := ⟨_, rfl⟩
  have hk2 : k = bv % (n.pieces.length : Int) := by rw [hk]; exact Int.tmod_eq_emod_of_nonneg (by omega)
  have hk0 : 0 ≤ k := by rw [hk2]; exact Int.emod_nonneg _ (by omega)
  have hk1 : k < (n.pieces.length : Int) := by rw [hk2]; exact Int.emod_lt_of_pos _ (by omega)
  have HKE := Aside0.mk hk.symm
  have HSD := Aside0.mk (sides_good hgood)
  have hfp := hfit.p
  have hfj := hfit.j
  obtain ⟨⟨xc, xf, xj, ⟨xp, xa, xw⟩, xps⟩, hx⟩ : ∃ X, X = driveR n ls ⟨sp, sa, sw⟩ a := ⟨_, rfl⟩
  have Hx := Aside0.mk hx.symm
  obtain ⟨⟨fp, fa, fw⟩, hfl⟩ : ∃ t, t = flipS n k ⟨sp, sa, sw⟩ := ⟨_, rfl⟩
  obtain ⟨⟨yc, yf, yj, ⟨yp, ya, yw⟩, yps⟩, hy⟩ : ∃ X, X = driveR (flipN n k) ls ⟨fp, fa, fw⟩ a := ⟨_, rfl⟩
  have Hy := Aside0.mk hy.symm
  have hlaw := flip_law hgd hlb hsb k hab.1 (by omega)
  have hxs : spotB n ⟨xp, xa, xw⟩ = true := by
    have := (drv_spot hgood hlb 1000 ⟨sp, sa, sw⟩ a hsb hab.1).1
    rw [← driveR_is hgd hlb hsb hab.1 (by omega), ← hx] at this
    exact this
  rw [← hfl, ← hy, ← hx] at hlaw
  simp only at hlaw
  obtain ⟨hl1, hl2, hl3, hl4⟩ := hlaw
  subst yc yf yj
  have HFL := Aside0.mk hfl.symm
  have HL4 := Aside0.mk hl4
  have HXS := Aside0.mk hxs
  clear hls hlb hs hgd hgood hfit ha hbve hk hk2 hx hy hfl hl4 hxs hn
  have HSP := Aside0.mk hsb
  clear hsb
  go_enter Try.func13, Try.ntmps13
  have FB : Aside0 (Below w.heap.size w w) := ⟨Below.refl _ _⟩
  go_wp2_with fail
  refine (nets_of code A0 c0 n _ HC.out hg0 HN.out).mono ?_
  rintro e w1 ⟨u, rfl, ru, b1⟩
  replace HC := Aside0.mk (Kd.C_below HC.out b1)
  replace HM := Aside0.mk (Kd.C_below HM.out b1)
  replace FB := Aside0.mk (below_more FB.out b1)
  have RU := Aside0.mk (ru)
  clear b1
  clear ru
  have N5_ := Aside0.mk (Bx.new w1 [.slice u.1.1 n.pieces.length u.1.2, .slice u.2.1 n.joints.length u.2.2] 35)
  replace HC := Aside0.mk (Kd.C_alloc HC.out (.cells #[.slice u.1.1 n.pieces.length u.1.2, .slice u.2.1 n.joints.length u.2.2] 35))
  replace HM := Aside0.mk (Kd.C_alloc HM.out (.cells #[.slice u.1.1 n.pieces.length u.1.2, .slice u.2.1 n.joints.length u.2.2] 35))
  replace FB := Aside0.mk (below_alloc FB.out (.cells #[.slice u.1.1 n.pieces.length u.1.2, .slice u.2.1 n.joints.length u.2.2] 35))
  replace RU := Aside0.mk (RU.out.below (below_alloc (Below.refl _ _) (.cells #[.slice u.1.1 n.pieces.length u.1.2, .slice u.2.1 n.joints.length u.2.2] 35)))
  have N5 := N5_
  obtain ⟨W5, hW5⟩ : ∃ W5, W5 = w1.alloc (.cells #[.slice u.1.1 n.pieces.length u.1.2, .slice u.2.1 n.joints.length u.2.2] 35) := ⟨_, rfl⟩
  rw [← hW5] at HC
  rw [← hW5] at HM
  rw [← hW5] at FB
  rw [← hW5] at RU
  rw [← hW5] at N5
  have HW5 := Aside0.mk hW5
  clear hW5
  go_wp2_with fail
  rw [← HW5.out]
  have hnp0 : ((n.pieces.length : Int) == 0) = false := by simpa using hp0
  have hnp1 : ¬ ((n.pieces.length : Int) = 0) := by omega
  have hke := HKE.out
  have hkw : IntKind.i64.wrap k = k := wrap64 (by omega) (by omega)
  have n0 := N5.out.c 0 _ rfl
  have n1 := N5.out.c 1 _ rfl
  go_cut [6] (fun s6 W => s6 = .int .i64 k ∧ Aside0 (Below W5.heap.size W5 W))
  case first =>
    go_region_with (first | (go_at_call 62; refine (wByte_any more A1 c1 0 _ _ (Kd.C_below HM.out (by first | exact Below.refl _ _ | exact below_drew (Below.refl _ _))) hg1 rfl (by omega) hlm).mono ?_; rintro e w3 ⟨rfl, rfl⟩; rw [← HBV.out]))
    all_goals
      try go_wp2_with fail
      go_meet
      case rel => exact ⟨rfl, ⟨below_drew (Below.refl _ _)⟩⟩
  case rest =>
  obtain ⟨rfl, B6⟩ := hcut
  clear hke
  clear n0 n1
  replace HC := Aside0.mk (Kd.C_below HC.out B6.out)
  replace HM := Aside0.mk (Kd.C_below HM.out B6.out)
  replace FB := Aside0.mk (below_more FB.out B6.out)
  replace RU := Aside0.mk (RU.out.below B6.out)
  replace N5 := Aside0.mk (N5.out.below B6.out)
  clear B6
  obtain ⟨W6, hW6⟩ : ∃ W6, W6 = wc := ⟨_, rfl⟩
  subst hW6
  have n0 := N5.out.c 0 _ rfl
  have n1 := N5.out.c 1 _ rfl
  go_wp2_with fail
  refine (Flipped_any n u k _ RU.out hfp hfj HF.out.e HSD.out).mono ?_
  rintro e w2 ⟨v, rfl, rv, b2⟩
  clear n0 n1
  replace HC := Aside0.mk (Kd.C_below HC.out b2)
  replace HM := Aside0.mk (Kd.C_below HM.out b2)
  replace FB := Aside0.mk (below_more FB.out b2)
  replace RU := Aside0.mk (RU.out.below b2)
  replace N5 := Aside0.mk (N5.out.below b2)
  have RV := Aside0.mk (rv)
  clear b2
  clear rv
  have M7_ := Aside0.mk (Bx.new w2 [.slice v.1.1 n.pieces.length v.1.2, .slice v.2.1 n.joints.length v.2.2] 35)
  replace HC := Aside0.mk (Kd.C_alloc HC.out (.cells #[.slice v.1.1 n.pieces.length v.1.2, .slice v.2.1 n.joints.length v.2.2] 35))
  replace HM := Aside0.mk (Kd.C_alloc HM.out (.cells #[.slice v.1.1 n.pieces.length v.1.2, .slice v.2.1 n.joints.length v.2.2] 35))
  replace FB := Aside0.mk (below_alloc FB.out (.cells #[.slice v.1.1 n.pieces.length v.1.2, .slice v.2.1 n.joints.length v.2.2] 35))
  replace RU := Aside0.mk (RU.out.below (below_alloc (Below.refl _ _) (.cells #[.slice v.1.1 n.pieces.length v.1.2, .slice v.2.1 n.joints.length v.2.2] 35)))
  replace N5 := Aside0.mk (N5.out.alloc (.cells #[.slice v.1.1 n.pieces.length v.1.2, .slice v.2.1 n.joints.length v.2.2] 35))
  replace RV := Aside0.mk (RV.out.below (below_alloc (Below.refl _ _) (.cells #[.slice v.1.1 n.pieces.length v.1.2, .slice v.2.1 n.joints.length v.2.2] 35)))
  have M7 := M7_
  have n0 := N5.out.c 0 _ rfl
  have n1 := N5.out.c 1 _ rfl
  go_wp2_with fail
  refine (aspot_any n u code A0 c0 _ RU.out HG.out HC.out hg0).mono ?_
  rintro e w3 ⟨rfl, b3⟩
  rw [← HS.out]
  simp only
  clear n0 n1
  replace HC := Aside0.mk (Kd.C_below HC.out b3)
  replace HM := Aside0.mk (Kd.C_below HM.out b3)
  replace FB := Aside0.mk (below_more FB.out b3)
  replace RU := Aside0.mk (RU.out.below b3)
  replace N5 := Aside0.mk (N5.out.below b3)
  replace RV := Aside0.mk (RV.out.below b3)
  replace M7 := Aside0.mk (M7.out.below b3)
  clear b3
  have S8_ := Aside0.mk (Bx.new w3 [.int .i64 sp, .int .i64 sa, .int .i64 sw] 38)
  replace HC := Aside0.mk (Kd.C_alloc HC.out (.cells #[.int .i64 sp, .int .i64 sa, .int .i64 sw] 38))
  replace HM := Aside0.mk (Kd.C_alloc HM.out (.cells #[.int .i64 sp, .int .i64 sa, .int .i64 sw] 38))
  replace FB := Aside0.mk (below_alloc FB.out (.cells #[.int .i64 sp, .int .i64 sa, .int .i64 sw] 38))
  replace RU := Aside0.mk (RU.out.below (below_alloc (Below.refl _ _) (.cells #[.int .i64 sp, .int .i64 sa, .int .i64 sw] 38)))
  replace N5 := Aside0.mk (N5.out.alloc (.cells #[.int .i64 sp, .int .i64 sa, .int .i64 sw] 38))
  replace RV := Aside0.mk (RV.out.below (below_alloc (Below.refl _ _) (.cells #[.int .i64 sp, .int .i64 sa, .int .i64 sw] 38)))
  replace M7 := Aside0.mk (M7.out.alloc (.cells #[.int .i64 sp, .int .i64 sa, .int .i64 sw] 38))
  have S8 := S8_
  have n0 := N5.out.c 0 _ rfl
  have n1 := N5.out.c 1 _ rfl
  go_wp2_with fail
  refine (lies_any n u more A1 c1 _ RU.out hj120 HM.out hg1).mono ?_
  rintro e w4 ⟨v1, rfl, rl, b4⟩
  rw [← HLS.out] at rl
  obtain ⟨LA, lc, rfl, _, rq⟩ := Kd.R_reads rl
  clear n0 n1
  replace HC := Aside0.mk (Kd.C_below HC.out b4)
  replace HM := Aside0.mk (Kd.C_below HM.out b4)
  replace FB := Aside0.mk (below_more FB.out b4)
  replace RU := Aside0.mk (RU.out.below b4)
  replace N5 := Aside0.mk (N5.out.below b4)
  replace RV := Aside0.mk (RV.out.below b4)
  replace M7 := Aside0.mk (M7.out.below b4)
  replace S8 := Aside0.mk (S8.out.below b4)
  have RL := Aside0.mk (rq)
  clear b4
  clear rl rq
  go_wp2_with fail
  refine (wWhole_any more A1 c1 3 _ _ HM.out hg1 rfl (by omega) hlm).mono ?_
  rintro e w4q ⟨rfl, rfl⟩
  rw [← HA.out]
  have n0 := N5.out.c 0 _ rfl
  have n1 := N5.out.c 1 _ rfl
  have t0 := S8.out.c 0 _ rfl
  have t1 := S8.out.c 1 _ rfl
  have t2 := S8.out.c 2 _ rfl
  go_wp2_with fail
  refine (implDrive_any n u (LA, lc) ls ⟨sp, sa, sw⟩ a _ RU.out RL.out HF.out).mono ?_
  rintro e w5 ⟨rfl, b5⟩
  rw [Hx.out]
  simp only [drvV]
  clear n0 n1 t0 t1 t2
  replace HC := Aside0.mk (Kd.C_below HC.out b5)
  replace HM := Aside0.mk (Kd.C_below HM.out b5)
  replace FB := Aside0.mk (below_more FB.out b5)
  replace RU := Aside0.mk (RU.out.below b5)
  replace N5 := Aside0.mk (N5.out.below b5)
  replace RV := Aside0.mk (RV.out.below b5)
  replace M7 := Aside0.mk (M7.out.below b5)
  replace S8 := Aside0.mk (S8.out.below b5)
  replace RL := Aside0.mk (Kd.C_below RL.out b5)
  clear b5
  have X11_ := Aside0.mk (Bx.new w5 [.int .i64 xc, .int .i64 xf, .int .i64 xj, .int .i64 xp, .int .i64 xa, .int .i64 xw] 44)
  replace HC := Aside0.mk (Kd.C_alloc HC.out (.cells #[.int .i64 xc, .int .i64 xf, .int .i64 xj, .int .i64 xp, .int .i64 xa, .int .i64 xw] 44))
  replace HM := Aside0.mk (Kd.C_alloc HM.out (.cells #[.int .i64 xc, .int .i64 xf, .int .i64 xj, .int .i64 xp, .int .i64 xa, .int .i64 xw] 44))
  replace FB := Aside0.mk (below_alloc FB.out (.cells #[.int .i64 xc, .int .i64 xf, .int .i64 xj, .int .i64 xp, .int .i64 xa, .int .i64 xw] 44))
  replace RU := Aside0.mk (RU.out.below (below_alloc (Below.refl _ _) (.cells #[.int .i64 xc, .int .i64 xf, .int .i64 xj, .int .i64 xp, .int .i64 xa, .int .i64 xw] 44)))
  replace N5 := Aside0.mk (N5.out.alloc (.cells #[.int .i64 xc, .int .i64 xf, .int .i64 xj, .int .i64 xp, .int .i64 xa, .int .i64 xw] 44))
  replace RV := Aside0.mk (RV.out.below (below_alloc (Below.refl _ _) (.cells #[.int .i64 xc, .int .i64 xf, .int .i64 xj, .int .i64 xp, .int .i64 xa, .int .i64 xw] 44)))
  replace M7 := Aside0.mk (M7.out.alloc (.cells #[.int .i64 xc, .int .i64 xf, .int .i64 xj, .int .i64 xp, .int .i64 xa, .int .i64 xw] 44))
  replace S8 := Aside0.mk (S8.out.alloc (.cells #[.int .i64 xc, .int .i64 xf, .int .i64 xj, .int .i64 xp, .int .i64 xa, .int .i64 xw] 44))
  replace RL := Aside0.mk (Kd.C_alloc RL.out (.cells #[.int .i64 xc, .int .i64 xf, .int .i64 xj, .int .i64 xp, .int .i64 xa, .int .i64 xw] 44))
  have X11 := X11_
  obtain ⟨W11, hW11⟩ : ∃ W11, W11 = w5.alloc (.cells #[.int .i64 xc, .int .i64 xf, .int .i64 xj, .int .i64 xp, .int .i64 xa, .int .i64 xw] 44) := ⟨_, rfl⟩
  rw [← hW11] at HC
  rw [← hW11] at HM
  rw [← hW11] at FB
  rw [← hW11] at RU
  rw [← hW11] at N5
  rw [← hW11] at RV
  rw [← hW11] at M7
  rw [← hW11] at S8
  rw [← hW11] at RL
  rw [← hW11] at X11
  have HW11 := Aside0.mk hW11
  clear hW11
  go_wp2_with fail
  rw [← HW11.out]
  have HSp : Aside0 (∀ W, Below W11.heap.size W11 W → (Below W11.heap.size W11 W ∧ W.cell? ⟨w2.heap.size, 0, none⟩ = some (.slice v.1.1 n.pieces.length v.1.2) ∧ W.cell? ⟨w2.heap.size, 1, none⟩ = some (.slice v.2.1 n.joints.length v.2.2) ∧ W.cell? ⟨w1.heap.size, 0, none⟩ = some (.slice u.1.1 n.pieces.length u.1.2) ∧ W.cell? ⟨w1.heap.size, 1, none⟩ = some (.slice u.2.1 n.joints.length u.2.2) ∧ W.cell? ⟨w3.heap.size, 0, none⟩ = some (.int .i64 sp) ∧ W.cell? ⟨w3.heap.size, 1, none⟩ = some (.int .i64 sa) ∧ W.cell? ⟨w3.heap.size, 2, none⟩ = some (.int .i64 sw))) := ⟨fun W hb => ⟨hb, (M7.out.below hb).c 0 _ rfl, (M7.out.below hb).c 1 _ rfl, (N5.out.below hb).c 0 _ rfl, (N5.out.below hb).c 1 _ rfl, (S8.out.below hb).c 0 _ rfl, (S8.out.below hb).c 1 _ rfl, (S8.out.below hb).c 2 _ rfl⟩⟩
  go_cut [12] (fun sv W => ∃ bn, sv = .pointer (some ⟨bn, 0, none⟩) ∧ Aside0 (Below W11.heap.size W11 W) ∧ Aside0 (Bx W bn [.int .i64 xc, .int .i64 xf, .int .i64 xj, .int .i64 yp, .int .i64 ya, .int .i64 yw]))
  case first =>
    go_region_held3 (fun W => Below W11.heap.size W11 W ∧ W.cell? ⟨w2.heap.size, 0, none⟩ = some (.slice v.1.1 n.pieces.length v.1.2) ∧ W.cell? ⟨w2.heap.size, 1, none⟩ = some (.slice v.2.1 n.joints.length v.2.2) ∧ W.cell? ⟨w1.heap.size, 0, none⟩ = some (.slice u.1.1 n.pieces.length u.1.2) ∧ W.cell? ⟨w1.heap.size, 1, none⟩ = some (.slice u.2.1 n.joints.length u.2.2) ∧ W.cell? ⟨w3.heap.size, 0, none⟩ = some (.int .i64 sp) ∧ W.cell? ⟨w3.heap.size, 1, none⟩ = some (.int .i64 sa) ∧ W.cell? ⟨w3.heap.size, 2, none⟩ = some (.int .i64 sw))
      (first | (with_reducible assumption) | (with_reducible exact HSp.out _ (by with_reducible assumption)) | (with_reducible exact HSp.out _ (by repeat (first | (with_reducible assumption) | (with_reducible refine below_set ?_ (Below.size (by with_reducible assumption))) | (with_reducible refine below_set ?_ (Nat.le_refl _)) | (with_reducible refine below_set ?_ (by omega)) | (with_reducible refine below_alloc ?_ _) | (with_reducible exact Below.refl _ _) | (with_reducible refine below_drew ?_)))))
      (first
        | (go_at_call 64; go_split_ands; (with_reducible refine Calls.mono (wFlip_any n u ⟨sp, sa, sw⟩ k _ (RU.out.below (by assumption)) HG.out HSP.out hk0 hk1) ?_); rintro e pw0 ⟨rfl, b3⟩; rw [HFL.out]; simp only; have pq0 : Below W11.heap.size W11 pw0 := below_more (by assumption) b3; have pz0 := pq0.size; (first | (with_reducible have pX0 := Aside0.mk ((Bx.new _ [.int .i64 0, .int .i64 0, .int .i64 0, .int .i64 0, .int .i64 0, .int .i64 0] 44).below b3)) | (with_reducible have pX0 := Aside0.mk ((Bx.drew (Bx.new _ [.int .i64 0, .int .i64 0, .int .i64 0, .int .i64 0, .int .i64 0, .int .i64 0] 44)).below b3)) | skip); have pQ0 := Aside0.mk pq0; clear b3)
        | (go_at_call 37; go_split_ands; (with_reducible refine Calls.mono (implDriveF n k v (LA, lc) ls ⟨fp, fa, fw⟩ a _ (RV.out.below (by assumption)) (Kd.C_below RL.out (by assumption)) HF.out) ?_); rintro e pw1 ⟨rfl, b3⟩; rw [Hy.out]; simp only [drvV]; have pq1 : Below W11.heap.size W11 pw1 := below_more (by assumption) b3; have pz1 := pq1.size; (first | (with_reducible have pX1 := Aside0.mk (pX0.out.below b3)) | (with_reducible have pX1 := Aside0.mk ((Bx.new _ [.int .i64 0, .int .i64 0, .int .i64 0, .int .i64 0, .int .i64 0, .int .i64 0] 44).below b3)) | (with_reducible have pX1 := Aside0.mk ((Bx.drew (Bx.new _ [.int .i64 0, .int .i64 0, .int .i64 0, .int .i64 0, .int .i64 0, .int .i64 0] 44)).below b3)) | skip); (first | (have px0 := pX1.out.c 0 _ rfl; have pxf0 := pX1.out.f 0; have px1 := pX1.out.c 1 _ rfl; have pxf1 := pX1.out.f 1; have px2 := pX1.out.c 2 _ rfl; have pxf2 := pX1.out.f 2; have px3 := pX1.out.c 3 _ rfl; have pxf3 := pX1.out.f 3; have px4 := pX1.out.c 4 _ rfl; have pxf4 := pX1.out.f 4; have px5 := pX1.out.c 5 _ rfl; have pxf5 := pX1.out.f 5; have pxl := pX1.out.lt) | skip); have pQ1 := Aside0.mk pq1; clear b3))
    all_goals
      try go_wp2_with fail
      go_meet
      case rel =>
        first
          | (with_reducible refine ⟨_, rfl, ⟨below_alloc pQ1.out _⟩, ⟨Bx.new' _ _ _ rfl⟩⟩; done)
          | (refine ⟨_, rfl, ⟨?_⟩, ⟨?_⟩⟩
             · repeat (first | (with_reducible exact pQ1.out) | (with_reducible refine below_set ?_ (Below.size (by with_reducible assumption))) | (with_reducible refine below_set ?_ (Nat.le_refl _)) | (with_reducible refine below_set ?_ (by omega)) | (with_reducible refine below_alloc ?_ _))
             · exact ((((((pX1.out.set (i := 0) (by simp) _).set (i := 1) (by simp) _).set (i := 2) (by simp) _).set (i := 3) (by simp) _).set (i := 4) (by simp) _).set (i := 5) (by simp) _))
  case rest =>
  obtain ⟨pb, rfl, pB, Y12_⟩ := hcut
  replace HC := Aside0.mk (Kd.C_below HC.out pB.out)
  replace HM := Aside0.mk (Kd.C_below HM.out pB.out)
  replace FB := Aside0.mk (below_more FB.out pB.out)
  replace RU := Aside0.mk (RU.out.below pB.out)
  replace N5 := Aside0.mk (N5.out.below pB.out)
  replace RV := Aside0.mk (RV.out.below pB.out)
  replace M7 := Aside0.mk (M7.out.below pB.out)
  replace S8 := Aside0.mk (S8.out.below pB.out)
  replace RL := Aside0.mk (Kd.C_below RL.out pB.out)
  replace X11 := Aside0.mk (X11.out.below pB.out)
  have Y12 := Y12_
  obtain ⟨W12, hW12⟩ : ∃ W12, W12 = wc := ⟨_, rfl⟩
  subst hW12
  have hbc : (xc == xc) = true := by simp
  have hbf : (xf == xf) = true := by simp
  have hbj : (xj == xj) = true := by simp
  have n0 := N5.out.c 0 _ rfl
  have n1 := N5.out.c 1 _ rfl
  have t0 := S8.out.c 0 _ rfl
  have t1 := S8.out.c 1 _ rfl
  have t2 := S8.out.c 2 _ rfl
  have x0 := X11.out.c 0 _ rfl
  have x1 := X11.out.c 1 _ rfl
  have x2 := X11.out.c 2 _ rfl
  have x3 := X11.out.c 3 _ rfl
  have x4 := X11.out.c 4 _ rfl
  have x5 := X11.out.c 5 _ rfl
  have y0 := Y12.out.c 0 _ rfl
  have y1 := Y12.out.c 1 _ rfl
  have y2 := Y12.out.c 2 _ rfl
  have y3 := Y12.out.c 3 _ rfl
  have y4 := Y12.out.c 4 _ rfl
  have y5 := Y12.out.c 5 _ rfl
  go_wp2_with fail
  have HSr : Aside0 (∀ W, Below W12.heap.size W12 W → (Below W12.heap.size W12 W ∧ W.cell? ⟨w5.heap.size, 0, none⟩ = some (.int .i64 xc) ∧ W.cell? ⟨w5.heap.size, 1, none⟩ = some (.int .i64 xf) ∧ W.cell? ⟨w5.heap.size, 2, none⟩ = some (.int .i64 xj) ∧ W.cell? ⟨w5.heap.size, 3, none⟩ = some (.int .i64 xp) ∧ W.cell? ⟨w5.heap.size, 4, none⟩ = some (.int .i64 xa) ∧ W.cell? ⟨w5.heap.size, 5, none⟩ = some (.int .i64 xw) ∧ W.cell? ⟨pb, 0, none⟩ = some (.int .i64 xc) ∧ W.cell? ⟨pb, 1, none⟩ = some (.int .i64 xf) ∧ W.cell? ⟨pb, 2, none⟩ = some (.int .i64 xj) ∧ W.cell? ⟨pb, 3, none⟩ = some (.int .i64 yp) ∧ W.cell? ⟨pb, 4, none⟩ = some (.int .i64 ya) ∧ W.cell? ⟨pb, 5, none⟩ = some (.int .i64 yw) ∧ W.cell? ⟨w1.heap.size, 0, none⟩ = some (.slice u.1.1 n.pieces.length u.1.2) ∧ W.cell? ⟨w1.heap.size, 1, none⟩ = some (.slice u.2.1 n.joints.length u.2.2) ∧ W.cell? ⟨w3.heap.size, 0, none⟩ = some (.int .i64 sp) ∧ W.cell? ⟨w3.heap.size, 1, none⟩ = some (.int .i64 sa) ∧ W.cell? ⟨w3.heap.size, 2, none⟩ = some (.int .i64 sw))) := ⟨fun W hb => ⟨hb, (X11.out.below hb).c 0 _ rfl, (X11.out.below hb).c 1 _ rfl, (X11.out.below hb).c 2 _ rfl, (X11.out.below hb).c 3 _ rfl, (X11.out.below hb).c 4 _ rfl, (X11.out.below hb).c 5 _ rfl, (Y12.out.below hb).c 0 _ rfl, (Y12.out.below hb).c 1 _ rfl, (Y12.out.below hb).c 2 _ rfl, (Y12.out.below hb).c 3 _ rfl, (Y12.out.below hb).c 4 _ rfl, (Y12.out.below hb).c 5 _ rfl, (N5.out.below hb).c 0 _ rfl, (N5.out.below hb).c 1 _ rfl, (S8.out.below hb).c 0 _ rfl, (S8.out.below hb).c 1 _ rfl, (S8.out.below hb).c 2 _ rfl⟩⟩
  go_region_held3 (fun W => Below W12.heap.size W12 W ∧ W.cell? ⟨w5.heap.size, 0, none⟩ = some (.int .i64 xc) ∧ W.cell? ⟨w5.heap.size, 1, none⟩ = some (.int .i64 xf) ∧ W.cell? ⟨w5.heap.size, 2, none⟩ = some (.int .i64 xj) ∧ W.cell? ⟨w5.heap.size, 3, none⟩ = some (.int .i64 xp) ∧ W.cell? ⟨w5.heap.size, 4, none⟩ = some (.int .i64 xa) ∧ W.cell? ⟨w5.heap.size, 5, none⟩ = some (.int .i64 xw) ∧ W.cell? ⟨pb, 0, none⟩ = some (.int .i64 xc) ∧ W.cell? ⟨pb, 1, none⟩ = some (.int .i64 xf) ∧ W.cell? ⟨pb, 2, none⟩ = some (.int .i64 xj) ∧ W.cell? ⟨pb, 3, none⟩ = some (.int .i64 yp) ∧ W.cell? ⟨pb, 4, none⟩ = some (.int .i64 ya) ∧ W.cell? ⟨pb, 5, none⟩ = some (.int .i64 yw) ∧ W.cell? ⟨w1.heap.size, 0, none⟩ = some (.slice u.1.1 n.pieces.length u.1.2) ∧ W.cell? ⟨w1.heap.size, 1, none⟩ = some (.slice u.2.1 n.joints.length u.2.2) ∧ W.cell? ⟨w3.heap.size, 0, none⟩ = some (.int .i64 sp) ∧ W.cell? ⟨w3.heap.size, 1, none⟩ = some (.int .i64 sa) ∧ W.cell? ⟨w3.heap.size, 2, none⟩ = some (.int .i64 sw))
    (first | assumption | (with_reducible exact HSr.out _ (by assumption)) | (with_reducible exact HSr.out _ (Below.drew (Below.refl _ _))))
    (first
      | (go_at_call 64; go_split_ands; (with_reducible refine Calls.mono (wFlip_any n u ⟨xp, xa, xw⟩ k _ (RU.out.below (by assumption)) HG.out HXS.out hk0 hk1) ?_); rintro e rw0 ⟨rfl, b3⟩; rw [HL4.out]; simp only; have rq0 : Below W12.heap.size W12 rw0 := below_more (by assumption) b3; have rQ0 := Aside0.mk rq0; clear b3)
      | (go_at_call 38; go_split_ands; (with_reducible refine Calls.mono (specDrive_any n u (LA, lc) ls ⟨sp, sa, sw⟩ a _ (RU.out.below (by assumption)) (Kd.C_below RL.out (by assumption)) HF.out) ?_); rintro e rw1 ⟨rfl, b3⟩; rw [Hx.out]; simp only [drvV]; have rq1 : Below W12.heap.size W12 rw1 := below_more (by assumption) b3; have rQ1 := Aside0.mk rq1; clear b3))
  replace HC := Aside0.mk (Kd.C_below HC.out rQ1.out)
  replace HM := Aside0.mk (Kd.C_below HM.out rQ1.out)
  replace FB := Aside0.mk (below_more FB.out rQ1.out)
  replace RU := Aside0.mk (RU.out.below rQ1.out)
  replace N5 := Aside0.mk (N5.out.below rQ1.out)
  replace RV := Aside0.mk (RV.out.below rQ1.out)
  replace M7 := Aside0.mk (M7.out.below rQ1.out)
  replace S8 := Aside0.mk (S8.out.below rQ1.out)
  replace RL := Aside0.mk (Kd.C_below RL.out rQ1.out)
  replace X11 := Aside0.mk (X11.out.below rQ1.out)
  replace Y12 := Aside0.mk (Y12.out.below rQ1.out)
  go_wp2_with fail
  go_ret
  exact ⟨by simp, FB.out⟩
end Go.Proofs.Ytckcffjnffcjcaa
