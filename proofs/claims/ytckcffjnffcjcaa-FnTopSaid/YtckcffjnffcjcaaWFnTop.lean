/- Proved: a call of FnTop returns true and changes nothing that was there, whatever it is given. No conditions. -/
import Derived.Test.YtckcffjnffcjcaaGen6
import Derived.Test.YtckcffjnffcjcaaDr9
import Derived.Test.YtckcffjnffcjcaaLaws1
import Derived.Deep.RegionHeld3
set_option linter.unusedVariables false
set_option linter.unusedSimpArgs false
namespace Go.Proofs.Ytckcffjnffcjcaa
open Go.RowKit Go.Proofs.YtckcffjnffcjcaaW.PrintWords
set_option maxRecDepth 100000 in
set_option maxHeartbeats 8000000 in
theorem FnTop_walk (u0 : Option Addr × Nat) (code : List Int) (u1 : Option Addr × Nat) (more : List Int) (w : World) (e0 : Kd.C (Kd.int .u8) w u0.1 code.length code ∧ code.length ≤ u0.2) (g0 : code.length ≤ 9223372036854775807 ∧ ∀ y ∈ code, 0 ≤ y ∧ y ≤ 255) (e1 : Kd.C (Kd.int .u8) w u1.1 more.length more ∧ more.length ≤ u1.2) (g1 : more.length ≤ 9223372036854775807 ∧ ∀ y ∈ more, 0 ≤ y ∧ y ≤ 255) :
    Calls Try.prog 6 #[.slice u0.1 code.length u0.2, .slice u1.1 more.length u1.2] w fun e w' => e = .returned (.bool true) ∧ Below w.heap.size w w' := by
  have hm0 := g0.1
  have hm1 := g1.1
  have hg0 : GCode code := g0.2
  have hg1 : GCode more := g1.2
  have HC := Aside0.mk e0.1
  have HM := Aside0.mk e1.1
  obtain ⟨A0, c0⟩ := u0
  obtain ⟨A1, c1⟩ := u1
  simp only at HC HM ⊢
  clear e0 e1 g0 g1
  by_cases hl0 : (1048576 : Int) < (code.length : Int)
  · go_enter Try.func6, Try.ntmps6
    go_wp2
    go_ret
    exact ⟨rfl, Below.refl _ _⟩
  by_cases hl1 : (1048576 : Int) < (more.length : Int)
  · go_enter Try.func6, Try.ntmps6
    go_wp2
    go_ret
    exact ⟨rfl, Below.refl _ _⟩
  have hlm : more.length ≤ 1048576 := by omega
  have hlc : code.length ≤ 1048576 := by omega
  obtain ⟨n, hn⟩ : ∃ n, n = netG code := ⟨_, rfl⟩
  have hgd : netGood n = true := by rw [hn]; exact netG_good code
  have hgood := Good.of hgd
  have hfit : NetFits n := by rw [hn]; exact netG_fits code
  have HGD := Aside0.mk hgd
  have HG := Aside0.mk hgood
  have HF := Aside0.mk hfit
  have HN := Aside0.mk hn
  have hj120 := hgood.j1
  obtain ⟨⟨sp, sa, sw⟩, hs⟩ : ∃ s, s = spotG n more := ⟨_, rfl⟩
  have hsb : spotB n ⟨sp, sa, sw⟩ = true := by rw [hs]; exact spotG_ok hgood more
  have HS := Aside0.mk hs
  have HSB := Aside0.mk hsb
  obtain ⟨ls, hls⟩ : ∃ l, l = liesG n more := ⟨_, rfl⟩
  have hlb : liesB n ls = true := by rw [hls]; exact liesG_ok n more
  have HLS := Aside0.mk hls
  have HLB := Aside0.mk hlb
  have hab := wholeV_bd hg1 3
  have hbb := wholeV_bd hg1 6
  obtain ⟨a, ha⟩ : ∃ a, a = wholeV more 3 := ⟨_, rfl⟩
  obtain ⟨b, hb⟩ : ∃ b, b = wholeV more 6 := ⟨_, rfl⟩
  rw [← ha] at hab
  rw [← hb] at hbb
  have HA := Aside0.mk ha
  have HB := Aside0.mk hb
  obtain ⟨⟨xc, xf, xj, ⟨xp, xa, xw⟩, xps⟩, hx⟩ : ∃ X, X = driveR n ls ⟨sp, sa, sw⟩ a := ⟨_, rfl⟩
  have Hx := Aside0.mk hx.symm
  obtain ⟨⟨yc, yf, yj, ⟨yp, ya, yw⟩, yps⟩, hy⟩ : ∃ X, X = driveR n ls ⟨sp, sa, sw⟩ (a + b) := ⟨_, rfl⟩
  have Hy := Aside0.mk hy.symm
  obtain ⟨⟨zc, zf, zj, ⟨zp, za, zw⟩, zps⟩, hz⟩ : ∃ X, X = driveR n ls ⟨xp, xa, xw⟩ b := ⟨_, rfl⟩
  have Hz := Aside0.mk hz.symm
  have hstop := top_stop hgd hlb hsb hab.1 hbb.1 (by omega)
  have hfar := fun hc => (top_far hgd hlb hsb hab.1 (by omega) hc).1
  have hon := top_on hgd hlb hsb hab.1 hbb.1 (by omega)
  have hzbd := top_zbd hgd hlb hsb hab.1 hbb.1 (by omega)
  rw [← hx] at hstop hfar hon hzbd
  rw [← hz] at hzbd
  rw [← hz, ← hy] at hon
  rw [← hy] at hstop
  simp only at hstop hfar hon hzbd
  have HZB := Aside0.mk hzbd
  have HST := Aside0.mk hstop
  have HFA := Aside0.mk hfar
  have HON := Aside0.mk hon
  clear hstop hfar hon hzbd hx hy hz ha hb hls hlb hs hsb hn hgd hgood hfit
  go_enter Try.func6, Try.ntmps6
  have FB : Aside0 (Below w.heap.size w w) := ⟨Below.refl _ _⟩
  go_wp2_with fail
  refine (nets_of code A0 c0 n _ HC.out hg0 HN.out).mono ?_
  rintro e w1 ⟨u, rfl, ru, b1⟩
  replace HC := Aside0.mk (Kd.C_below HC.out b1)
  replace HM := Aside0.mk (Kd.C_below HM.out b1)
  replace FB := Aside0.mk (below_more FB.out b1)
  have RU := Aside0.mk (ru)
  clear b1
  clear ru
  have N5_ := Aside0.mk (Bx.new w1 [.slice u.1.1 n.pieces.length u.1.2, .slice u.2.1 n.joints.length u.2.2] 35)
  replace HC := Aside0.mk (Kd.C_alloc HC.out (.cells #[.slice u.1.1 n.pieces.length u.1.2, .slice u.2.1 n.joints.length u.2.2] 35))
  replace HM := Aside0.mk (Kd.C_alloc HM.out (.cells #[.slice u.1.1 n.pieces.length u.1.2, .slice u.2.1 n.joints.length u.2.2] 35))
  replace FB := Aside0.mk (below_alloc FB.out (.cells #[.slice u.1.1 n.pieces.length u.1.2, .slice u.2.1 n.joints.length u.2.2] 35))
  replace RU := Aside0.mk (RU.out.below (below_alloc (Below.refl _ _) (.cells #[.slice u.1.1 n.pieces.length u.1.2, .slice u.2.1 n.joints.length u.2.2] 35)))
  have N5 := N5_
  have n0 := N5.out.c 0 _ rfl
  have n1 := N5.out.c 1 _ rfl
  go_wp2_with fail
  refine (aspot_any n u more A1 c1 _ RU.out HG.out HM.out hg1).mono ?_
  rintro e w2 ⟨rfl, b2⟩
  rw [← HS.out]
  simp only
  clear n0 n1
  replace HC := Aside0.mk (Kd.C_below HC.out b2)
  replace HM := Aside0.mk (Kd.C_below HM.out b2)
  replace FB := Aside0.mk (below_more FB.out b2)
  replace RU := Aside0.mk (RU.out.below b2)
  replace N5 := Aside0.mk (N5.out.below b2)
  clear b2
  have S6_ := Aside0.mk (Bx.new w2 [.int .i64 sp, .int .i64 sa, .int .i64 sw] 38)
  replace HC := Aside0.mk (Kd.C_alloc HC.out (.cells #[.int .i64 sp, .int .i64 sa, .int .i64 sw] 38))
  replace HM := Aside0.mk (Kd.C_alloc HM.out (.cells #[.int .i64 sp, .int .i64 sa, .int .i64 sw] 38))
  replace FB := Aside0.mk (below_alloc FB.out (.cells #[.int .i64 sp, .int .i64 sa, .int .i64 sw] 38))
  replace RU := Aside0.mk (RU.out.below (below_alloc (Below.refl _ _) (.cells #[.int .i64 sp, .int .i64 sa, .int .i64 sw] 38)))
  replace N5 := Aside0.mk (N5.out.alloc (.cells #[.int .i64 sp, .int .i64 sa, .int .i64 sw] 38))
  have S6 := S6_
  have n0 := N5.out.c 0 _ rfl
  have n1 := N5.out.c 1 _ rfl
  go_wp2_with fail
  refine (lies_any n u more A1 c1 _ RU.out hj120 HM.out hg1).mono ?_
  rintro e w3 ⟨v1, rfl, rv, b3⟩
  rw [← HLS.out] at rv
  obtain ⟨LA, lc, rfl, _, rl⟩ := Kd.R_reads rv
  clear n0 n1
  replace HC := Aside0.mk (Kd.C_below HC.out b3)
  replace HM := Aside0.mk (Kd.C_below HM.out b3)
  replace FB := Aside0.mk (below_more FB.out b3)
  replace RU := Aside0.mk (RU.out.below b3)
  replace N5 := Aside0.mk (N5.out.below b3)
  replace S6 := Aside0.mk (S6.out.below b3)
  have RL := Aside0.mk (rl)
  clear b3
  clear rv rl
  go_wp2_with fail
  refine (nets_of code A0 c0 n _ HC.out hg0 HN.out).mono ?_
  rintro e w4 ⟨v, rfl, ru, b4⟩
  replace HC := Aside0.mk (Kd.C_below HC.out b4)
  replace HM := Aside0.mk (Kd.C_below HM.out b4)
  replace FB := Aside0.mk (below_more FB.out b4)
  replace RU := Aside0.mk (RU.out.below b4)
  replace N5 := Aside0.mk (N5.out.below b4)
  replace S6 := Aside0.mk (S6.out.below b4)
  replace RL := Aside0.mk (Kd.C_below RL.out b4)
  have RV := Aside0.mk (ru)
  clear b4
  clear ru
  have N8_ := Aside0.mk (Bx.new w4 [.slice v.1.1 n.pieces.length v.1.2, .slice v.2.1 n.joints.length v.2.2] 35)
  replace HC := Aside0.mk (Kd.C_alloc HC.out (.cells #[.slice v.1.1 n.pieces.length v.1.2, .slice v.2.1 n.joints.length v.2.2] 35))
  replace HM := Aside0.mk (Kd.C_alloc HM.out (.cells #[.slice v.1.1 n.pieces.length v.1.2, .slice v.2.1 n.joints.length v.2.2] 35))
  replace FB := Aside0.mk (below_alloc FB.out (.cells #[.slice v.1.1 n.pieces.length v.1.2, .slice v.2.1 n.joints.length v.2.2] 35))
  replace RU := Aside0.mk (RU.out.below (below_alloc (Below.refl _ _) (.cells #[.slice v.1.1 n.pieces.length v.1.2, .slice v.2.1 n.joints.length v.2.2] 35)))
  replace N5 := Aside0.mk (N5.out.alloc (.cells #[.slice v.1.1 n.pieces.length v.1.2, .slice v.2.1 n.joints.length v.2.2] 35))
  replace S6 := Aside0.mk (S6.out.alloc (.cells #[.slice v.1.1 n.pieces.length v.1.2, .slice v.2.1 n.joints.length v.2.2] 35))
  replace RL := Aside0.mk (Kd.C_alloc RL.out (.cells #[.slice v.1.1 n.pieces.length v.1.2, .slice v.2.1 n.joints.length v.2.2] 35))
  replace RV := Aside0.mk (RV.out.below (below_alloc (Below.refl _ _) (.cells #[.slice v.1.1 n.pieces.length v.1.2, .slice v.2.1 n.joints.length v.2.2] 35)))
  have N8 := N8_
  have n0 := N8.out.c 0 _ rfl
  have n1 := N8.out.c 1 _ rfl
  go_wp2_with fail
  refine (lies_any n v more A1 c1 _ RV.out hj120 HM.out hg1).mono ?_
  rintro e w5 ⟨v1, rfl, rv, b5⟩
  rw [← HLS.out] at rv
  obtain ⟨MA, mc, rfl, _, rl⟩ := Kd.R_reads rv
  clear n0 n1
  replace HC := Aside0.mk (Kd.C_below HC.out b5)
  replace HM := Aside0.mk (Kd.C_below HM.out b5)
  replace FB := Aside0.mk (below_more FB.out b5)
  replace RU := Aside0.mk (RU.out.below b5)
  replace N5 := Aside0.mk (N5.out.below b5)
  replace S6 := Aside0.mk (S6.out.below b5)
  replace RL := Aside0.mk (Kd.C_below RL.out b5)
  replace RV := Aside0.mk (RV.out.below b5)
  replace N8 := Aside0.mk (N8.out.below b5)
  have RM := Aside0.mk (rl)
  clear b5
  clear rv rl
  go_wp2_with fail
  refine (wWhole_any more A1 c1 3 _ _ HM.out hg1 rfl (by omega) hlm).mono ?_
  rintro e w5q ⟨rfl, rfl⟩
  rw [← HA.out]
  go_wp2_with fail
  refine (wWhole_any more A1 c1 6 _ _ HM.out hg1 rfl (by omega) hlm).mono ?_
  rintro e w5q ⟨rfl, rfl⟩
  rw [← HB.out]
  have n0 := N5.out.c 0 _ rfl
  have n1 := N5.out.c 1 _ rfl
  have t0 := S6.out.c 0 _ rfl
  have t1 := S6.out.c 1 _ rfl
  have t2 := S6.out.c 2 _ rfl
  go_wp2_with fail
  refine (implDrive_any n u (LA, lc) ls ⟨sp, sa, sw⟩ a _ RU.out RL.out HF.out).mono ?_
  rintro e w6 ⟨rfl, b6⟩
  rw [Hx.out]
  simp only [drvV]
  clear n0 n1 t0 t1 t2
  replace HC := Aside0.mk (Kd.C_below HC.out b6)
  replace HM := Aside0.mk (Kd.C_below HM.out b6)
  replace FB := Aside0.mk (below_more FB.out b6)
  replace RU := Aside0.mk (RU.out.below b6)
  replace N5 := Aside0.mk (N5.out.below b6)
  replace S6 := Aside0.mk (S6.out.below b6)
  replace RL := Aside0.mk (Kd.C_below RL.out b6)
  replace RV := Aside0.mk (RV.out.below b6)
  replace N8 := Aside0.mk (N8.out.below b6)
  replace RM := Aside0.mk (Kd.C_below RM.out b6)
  clear b6
  have X12_ := Aside0.mk (Bx.new w6 [.int .i64 xc, .int .i64 xf, .int .i64 xj, .int .i64 xp, .int .i64 xa, .int .i64 xw] 44)
  replace HC := Aside0.mk (Kd.C_alloc HC.out (.cells #[.int .i64 xc, .int .i64 xf, .int .i64 xj, .int .i64 xp, .int .i64 xa, .int .i64 xw] 44))
  replace HM := Aside0.mk (Kd.C_alloc HM.out (.cells #[.int .i64 xc, .int .i64 xf, .int .i64 xj, .int .i64 xp, .int .i64 xa, .int .i64 xw] 44))
  replace FB := Aside0.mk (below_alloc FB.out (.cells #[.int .i64 xc, .int .i64 xf, .int .i64 xj, .int .i64 xp, .int .i64 xa, .int .i64 xw] 44))
  replace RU := Aside0.mk (RU.out.below (below_alloc (Below.refl _ _) (.cells #[.int .i64 xc, .int .i64 xf, .int .i64 xj, .int .i64 xp, .int .i64 xa, .int .i64 xw] 44)))
  replace N5 := Aside0.mk (N5.out.alloc (.cells #[.int .i64 xc, .int .i64 xf, .int .i64 xj, .int .i64 xp, .int .i64 xa, .int .i64 xw] 44))
  replace S6 := Aside0.mk (S6.out.alloc (.cells #[.int .i64 xc, .int .i64 xf, .int .i64 xj, .int .i64 xp, .int .i64 xa, .int .i64 xw] 44))
  replace RL := Aside0.mk (Kd.C_alloc RL.out (.cells #[.int .i64 xc, .int .i64 xf, .int .i64 xj, .int .i64 xp, .int .i64 xa, .int .i64 xw] 44))
  replace RV := Aside0.mk (RV.out.below (below_alloc (Below.refl _ _) (.cells #[.int .i64 xc, .int .i64 xf, .int .i64 xj, .int .i64 xp, .int .i64 xa, .int .i64 xw] 44)))
  replace N8 := Aside0.mk (N8.out.alloc (.cells #[.int .i64 xc, .int .i64 xf, .int .i64 xj, .int .i64 xp, .int .i64 xa, .int .i64 xw] 44))
  replace RM := Aside0.mk (Kd.C_alloc RM.out (.cells #[.int .i64 xc, .int .i64 xf, .int .i64 xj, .int .i64 xp, .int .i64 xa, .int .i64 xw] 44))
  have X12 := X12_
  obtain ⟨W9, hW9⟩ : ∃ W9, W9 = w6.alloc (.cells #[.int .i64 xc, .int .i64 xf, .int .i64 xj, .int .i64 xp, .int .i64 xa, .int .i64 xw] 44) := ⟨_, rfl⟩
  rw [← hW9] at HC
  rw [← hW9] at HM
  rw [← hW9] at FB
  rw [← hW9] at RU
  rw [← hW9] at N5
  rw [← hW9] at S6
  rw [← hW9] at RL
  rw [← hW9] at RV
  rw [← hW9] at N8
  rw [← hW9] at RM
  rw [← hW9] at X12
  have HW9 := Aside0.mk hW9
  clear hW9
  go_wp2_with fail
  try rw [← HW9.out]
  have HSr : Aside0 (∀ W, Below W9.heap.size W9 W → (Below W9.heap.size W9 W ∧ W.cell? ⟨w6.heap.size, 0, none⟩ = some (.int .i64 xc) ∧ W.cell? ⟨w6.heap.size, 1, none⟩ = some (.int .i64 xf) ∧ W.cell? ⟨w6.heap.size, 2, none⟩ = some (.int .i64 xj) ∧ W.cell? ⟨w6.heap.size, 3, none⟩ = some (.int .i64 xp) ∧ W.cell? ⟨w6.heap.size, 4, none⟩ = some (.int .i64 xa) ∧ W.cell? ⟨w6.heap.size, 5, none⟩ = some (.int .i64 xw) ∧ W.cell? ⟨w4.heap.size, 0, none⟩ = some (.slice v.1.1 n.pieces.length v.1.2) ∧ W.cell? ⟨w4.heap.size, 1, none⟩ = some (.slice v.2.1 n.joints.length v.2.2) ∧ W.cell? ⟨w2.heap.size, 0, none⟩ = some (.int .i64 sp) ∧ W.cell? ⟨w2.heap.size, 1, none⟩ = some (.int .i64 sa) ∧ W.cell? ⟨w2.heap.size, 2, none⟩ = some (.int .i64 sw) ∧ W.cell? ⟨w1.heap.size, 0, none⟩ = some (.slice u.1.1 n.pieces.length u.1.2) ∧ W.cell? ⟨w1.heap.size, 1, none⟩ = some (.slice u.2.1 n.joints.length u.2.2))) := ⟨fun W hb => ⟨hb, (X12.out.below hb).c 0 _ rfl, (X12.out.below hb).c 1 _ rfl, (X12.out.below hb).c 2 _ rfl, (X12.out.below hb).c 3 _ rfl, (X12.out.below hb).c 4 _ rfl, (X12.out.below hb).c 5 _ rfl, (N8.out.below hb).c 0 _ rfl, (N8.out.below hb).c 1 _ rfl, (S6.out.below hb).c 0 _ rfl, (S6.out.below hb).c 1 _ rfl, (S6.out.below hb).c 2 _ rfl, (N5.out.below hb).c 0 _ rfl, (N5.out.below hb).c 1 _ rfl⟩⟩
  go_region_held3 (fun W => Below W9.heap.size W9 W ∧ W.cell? ⟨w6.heap.size, 0, none⟩ = some (.int .i64 xc) ∧ W.cell? ⟨w6.heap.size, 1, none⟩ = some (.int .i64 xf) ∧ W.cell? ⟨w6.heap.size, 2, none⟩ = some (.int .i64 xj) ∧ W.cell? ⟨w6.heap.size, 3, none⟩ = some (.int .i64 xp) ∧ W.cell? ⟨w6.heap.size, 4, none⟩ = some (.int .i64 xa) ∧ W.cell? ⟨w6.heap.size, 5, none⟩ = some (.int .i64 xw) ∧ W.cell? ⟨w4.heap.size, 0, none⟩ = some (.slice v.1.1 n.pieces.length v.1.2) ∧ W.cell? ⟨w4.heap.size, 1, none⟩ = some (.slice v.2.1 n.joints.length v.2.2) ∧ W.cell? ⟨w2.heap.size, 0, none⟩ = some (.int .i64 sp) ∧ W.cell? ⟨w2.heap.size, 1, none⟩ = some (.int .i64 sa) ∧ W.cell? ⟨w2.heap.size, 2, none⟩ = some (.int .i64 sw) ∧ W.cell? ⟨w1.heap.size, 0, none⟩ = some (.slice u.1.1 n.pieces.length u.1.2) ∧ W.cell? ⟨w1.heap.size, 1, none⟩ = some (.slice u.2.1 n.joints.length u.2.2))
    (first | assumption | (with_reducible exact HSr.out _ (by assumption)) | (with_reducible exact HSr.out _ (Below.drew (Below.refl _ _))))
    (first
      | (go_at_call 38; go_split_ands; (with_reducible refine Calls.mono (specDrive_any n v (MA, mc) ls ⟨sp, sa, sw⟩ a _ (RV.out.below (by assumption)) (Kd.C_below RM.out (by assumption)) HF.out) ?_); rintro e rw0 ⟨rfl, b3⟩; rw [Hx.out]; simp only [drvV]; have rq0 : Below W9.heap.size W9 rw0 := below_more (by assumption) b3; have rQ0 := Aside0.mk rq0; clear b3)
      | (go_at_call 39; go_split_ands; (with_reducible refine Calls.mono (wNet_same n u v _ (RU.out.below (by assumption)) (RV.out.below (by assumption)) HF.out.jn HF.out.pn) ?_); rintro e rw1 ⟨rfl, b3⟩; have rq1 : Below W9.heap.size W9 rw1 := below_more (by assumption) b3; have rQ1 := Aside0.mk rq1; clear b3)
      | (go_at_call 40; go_split_ands; (with_reducible refine Calls.mono (wInts_same ls LA lc MA mc _ (Kd.C_below RL.out (by assumption)) (Kd.C_below RM.out (by assumption))) ?_); rintro e rw2 ⟨rfl, b3⟩; have rq2 : Below W9.heap.size W9 rw2 := below_more (by assumption) b3; have rQ2 := Aside0.mk rq2; clear b3))
  replace HC := Aside0.mk (Kd.C_below HC.out rQ2.out)
  replace HM := Aside0.mk (Kd.C_below HM.out rQ2.out)
  replace FB := Aside0.mk (below_more FB.out rQ2.out)
  replace RU := Aside0.mk (RU.out.below rQ2.out)
  replace N5 := Aside0.mk (N5.out.below rQ2.out)
  replace S6 := Aside0.mk (S6.out.below rQ2.out)
  replace RL := Aside0.mk (Kd.C_below RL.out rQ2.out)
  replace RV := Aside0.mk (RV.out.below rQ2.out)
  replace N8 := Aside0.mk (N8.out.below rQ2.out)
  replace RM := Aside0.mk (Kd.C_below RM.out rQ2.out)
  replace X12 := Aside0.mk (X12.out.below rQ2.out)
  have n0 := N5.out.c 0 _ rfl
  have n1 := N5.out.c 1 _ rfl
  have t0 := S6.out.c 0 _ rfl
  have t1 := S6.out.c 1 _ rfl
  have t2 := S6.out.c 2 _ rfl
  go_wp2_with fail
  refine (implDrive_any n u (LA, lc) ls ⟨sp, sa, sw⟩ (a + b) _ RU.out RL.out HF.out).mono ?_
  rintro e w7 ⟨rfl, b7⟩
  rw [Hy.out]
  simp only [drvV]
  clear n0 n1 t0 t1 t2
  replace HC := Aside0.mk (Kd.C_below HC.out b7)
  replace HM := Aside0.mk (Kd.C_below HM.out b7)
  replace FB := Aside0.mk (below_more FB.out b7)
  replace RU := Aside0.mk (RU.out.below b7)
  replace N5 := Aside0.mk (N5.out.below b7)
  replace S6 := Aside0.mk (S6.out.below b7)
  replace RL := Aside0.mk (Kd.C_below RL.out b7)
  replace RV := Aside0.mk (RV.out.below b7)
  replace N8 := Aside0.mk (N8.out.below b7)
  replace RM := Aside0.mk (Kd.C_below RM.out b7)
  replace X12 := Aside0.mk (X12.out.below b7)
  clear b7
  have Y13_ := Aside0.mk (Bx.new w7 [.int .i64 yc, .int .i64 yf, .int .i64 yj, .int .i64 yp, .int .i64 ya, .int .i64 yw] 44)
  replace HC := Aside0.mk (Kd.C_alloc HC.out (.cells #[.int .i64 yc, .int .i64 yf, .int .i64 yj, .int .i64 yp, .int .i64 ya, .int .i64 yw] 44))
  replace HM := Aside0.mk (Kd.C_alloc HM.out (.cells #[.int .i64 yc, .int .i64 yf, .int .i64 yj, .int .i64 yp, .int .i64 ya, .int .i64 yw] 44))
  replace FB := Aside0.mk (below_alloc FB.out (.cells #[.int .i64 yc, .int .i64 yf, .int .i64 yj, .int .i64 yp, .int .i64 ya, .int .i64 yw] 44))
  replace RU := Aside0.mk (RU.out.below (below_alloc (Below.refl _ _) (.cells #[.int .i64 yc, .int .i64 yf, .int .i64 yj, .int .i64 yp, .int .i64 ya, .int .i64 yw] 44)))
  replace N5 := Aside0.mk (N5.out.alloc (.cells #[.int .i64 yc, .int .i64 yf, .int .i64 yj, .int .i64 yp, .int .i64 ya, .int .i64 yw] 44))
  replace S6 := Aside0.mk (S6.out.alloc (.cells #[.int .i64 yc, .int .i64 yf, .int .i64 yj, .int .i64 yp, .int .i64 ya, .int .i64 yw] 44))
  replace RL := Aside0.mk (Kd.C_alloc RL.out (.cells #[.int .i64 yc, .int .i64 yf, .int .i64 yj, .int .i64 yp, .int .i64 ya, .int .i64 yw] 44))
  replace RV := Aside0.mk (RV.out.below (below_alloc (Below.refl _ _) (.cells #[.int .i64 yc, .int .i64 yf, .int .i64 yj, .int .i64 yp, .int .i64 ya, .int .i64 yw] 44)))
  replace N8 := Aside0.mk (N8.out.alloc (.cells #[.int .i64 yc, .int .i64 yf, .int .i64 yj, .int .i64 yp, .int .i64 ya, .int .i64 yw] 44))
  replace RM := Aside0.mk (Kd.C_alloc RM.out (.cells #[.int .i64 yc, .int .i64 yf, .int .i64 yj, .int .i64 yp, .int .i64 ya, .int .i64 yw] 44))
  replace X12 := Aside0.mk (X12.out.alloc (.cells #[.int .i64 yc, .int .i64 yf, .int .i64 yj, .int .i64 yp, .int .i64 ya, .int .i64 yw] 44))
  have Y13 := Y13_
  have x0 := X12.out.c 0 _ rfl
  have x1 := X12.out.c 1 _ rfl
  have x2 := X12.out.c 2 _ rfl
  have x3 := X12.out.c 3 _ rfl
  have x4 := X12.out.c 4 _ rfl
  have x5 := X12.out.c 5 _ rfl
  have y0 := Y13.out.c 0 _ rfl
  have y1 := Y13.out.c 1 _ rfl
  have y2 := Y13.out.c 2 _ rfl
  have y3 := Y13.out.c 3 _ rfl
  have y4 := Y13.out.c 4 _ rfl
  have y5 := Y13.out.c 5 _ rfl
  by_cases hc : xc = 0
  · skip
    have hfa := HFA.out hc
    have hxf : xf = a := hfa
    have hon := HON.out hc
    have hzb := HZB.out hc
    subst xf
    subst xc
    have HON2 := Aside0.mk hon
    clear hon HST HFA HON
    have n0 := N5.out.c 0 _ rfl
    have n1 := N5.out.c 1 _ rfl
    go_wp2_with fail
    refine (implDrive_any n u (LA, lc) ls ⟨xp, xa, xw⟩ b _ RU.out RL.out HF.out).mono ?_
    rintro e w8 ⟨rfl, b8⟩
    rw [Hz.out]
    simp only [drvV]
    clear x0 x1 x2 x3 x4 x5 y0 y1 y2 y3 y4 y5 n0 n1
    replace HC := Aside0.mk (Kd.C_below HC.out b8)
    replace HM := Aside0.mk (Kd.C_below HM.out b8)
    replace FB := Aside0.mk (below_more FB.out b8)
    replace RU := Aside0.mk (RU.out.below b8)
    replace N5 := Aside0.mk (N5.out.below b8)
    replace S6 := Aside0.mk (S6.out.below b8)
    replace RL := Aside0.mk (Kd.C_below RL.out b8)
    replace RV := Aside0.mk (RV.out.below b8)
    replace N8 := Aside0.mk (N8.out.below b8)
    replace RM := Aside0.mk (Kd.C_below RM.out b8)
    replace X12 := Aside0.mk (X12.out.below b8)
    replace Y13 := Aside0.mk (Y13.out.below b8)
    clear b8
    have Z14_ := Aside0.mk (Bx.new w8 [.int .i64 zc, .int .i64 zf, .int .i64 zj, .int .i64 zp, .int .i64 za, .int .i64 zw] 44)
    replace HC := Aside0.mk (Kd.C_alloc HC.out (.cells #[.int .i64 zc, .int .i64 zf, .int .i64 zj, .int .i64 zp, .int .i64 za, .int .i64 zw] 44))
    replace HM := Aside0.mk (Kd.C_alloc HM.out (.cells #[.int .i64 zc, .int .i64 zf, .int .i64 zj, .int .i64 zp, .int .i64 za, .int .i64 zw] 44))
    replace FB := Aside0.mk (below_alloc FB.out (.cells #[.int .i64 zc, .int .i64 zf, .int .i64 zj, .int .i64 zp, .int .i64 za, .int .i64 zw] 44))
    replace RU := Aside0.mk (RU.out.below (below_alloc (Below.refl _ _) (.cells #[.int .i64 zc, .int .i64 zf, .int .i64 zj, .int .i64 zp, .int .i64 za, .int .i64 zw] 44)))
    replace N5 := Aside0.mk (N5.out.alloc (.cells #[.int .i64 zc, .int .i64 zf, .int .i64 zj, .int .i64 zp, .int .i64 za, .int .i64 zw] 44))
    replace S6 := Aside0.mk (S6.out.alloc (.cells #[.int .i64 zc, .int .i64 zf, .int .i64 zj, .int .i64 zp, .int .i64 za, .int .i64 zw] 44))
    replace RL := Aside0.mk (Kd.C_alloc RL.out (.cells #[.int .i64 zc, .int .i64 zf, .int .i64 zj, .int .i64 zp, .int .i64 za, .int .i64 zw] 44))
    replace RV := Aside0.mk (RV.out.below (below_alloc (Below.refl _ _) (.cells #[.int .i64 zc, .int .i64 zf, .int .i64 zj, .int .i64 zp, .int .i64 za, .int .i64 zw] 44)))
    replace N8 := Aside0.mk (N8.out.alloc (.cells #[.int .i64 zc, .int .i64 zf, .int .i64 zj, .int .i64 zp, .int .i64 za, .int .i64 zw] 44))
    replace RM := Aside0.mk (Kd.C_alloc RM.out (.cells #[.int .i64 zc, .int .i64 zf, .int .i64 zj, .int .i64 zp, .int .i64 za, .int .i64 zw] 44))
    replace X12 := Aside0.mk (X12.out.alloc (.cells #[.int .i64 zc, .int .i64 zf, .int .i64 zj, .int .i64 zp, .int .i64 za, .int .i64 zw] 44))
    replace Y13 := Aside0.mk (Y13.out.alloc (.cells #[.int .i64 zc, .int .i64 zf, .int .i64 zj, .int .i64 zp, .int .i64 za, .int .i64 zw] 44))
    have Z14 := Z14_
    have x0 := X12.out.c 0 _ rfl
    have x1 := X12.out.c 1 _ rfl
    have x2 := X12.out.c 2 _ rfl
    have x3 := X12.out.c 3 _ rfl
    have x4 := X12.out.c 4 _ rfl
    have x5 := X12.out.c 5 _ rfl
    have y0 := Y13.out.c 0 _ rfl
    have y1 := Y13.out.c 1 _ rfl
    have y2 := Y13.out.c 2 _ rfl
    have y3 := Y13.out.c 3 _ rfl
    have y4 := Y13.out.c 4 _ rfl
    have y5 := Y13.out.c 5 _ rfl
    have z0 := Z14.out.c 0 _ rfl
    have z1 := Z14.out.c 1 _ rfl
    have z2 := Z14.out.c 2 _ rfl
    have z3 := Z14.out.c 3 _ rfl
    have z4 := Z14.out.c 4 _ rfl
    have z5 := Z14.out.c 5 _ rfl
    have hfb : (a != a) = false := by simp
    by_cases hz5 : zc = 5
    · skip
      subst zc
      go_wp2_with fail
      go_ret
      exact ⟨rfl, FB.out⟩
    · skip
      have hz5b : (zc == 5) = false := by simpa using hz5
      by_cases hy5 : yc = 5
      · skip
        subst yc
        go_wp2_with fail
        go_ret
        exact ⟨rfl, FB.out⟩
      · skip
        have hy5b : (yc == 5) = false := by simpa using hy5
        obtain ⟨e1, e2, e3, e4⟩ := HON2.out hz5 hy5
        injection e4 with e4 e5 e6
        subst yc yf yj yp ya yw
        go_wp2_with fail
        go_ret
        exact ⟨rfl, FB.out⟩
  · skip
    have hcb : (xc != 0) = true := by simpa using hc
    obtain ⟨e1, e2, e3, e4⟩ := HST.out hc
    injection e4 with e4 e5 e6
    clear HST HFA HON
    subst yc yf yj yp ya yw
    go_wp2_with fail
    go_ret
    exact ⟨rfl, FB.out⟩
end Go.Proofs.Ytckcffjnffcjcaa
