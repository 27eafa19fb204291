/- Proved: a call of FnBack returns true and changes nothing that was there, whatever it is given. No conditions. -/
import Derived.Test.YtckcffjnffcjcaaGen6
import Derived.Test.YtckcffjnffcjcaaDr9
import Derived.Test.YtckcffjnffcjcaaLaws1
import Derived.Deep.RegionHeld3
import Derived.Outline
set_option linter.unusedVariables false
set_option linter.unusedSimpArgs false
namespace Go.Proofs.Ytckcffjnffcjcaa
open Go.RowKit Go.Proofs.YtckcffjnffcjcaaW.PrintWords
set_option maxRecDepth 100000 in
set_option maxHeartbeats 8000000 in
theorem FnBack_walk (u0 : Option Addr × Nat) (code : List Int) (u1 : Option Addr × Nat) (more : List Int) (w : World) (e0 : Kd.C (Kd.int .u8) w u0.1 code.length code ∧ code.length ≤ u0.2) (g0 : code.length ≤ 9223372036854775807 ∧ ∀ y ∈ code, 0 ≤ y ∧ y ≤ 255) (e1 : Kd.C (Kd.int .u8) w u1.1 more.length more ∧ more.length ≤ u1.2) (g1 : more.length ≤ 9223372036854775807 ∧ ∀ y ∈ more, 0 ≤ y ∧ y ≤ 255) :
    Calls Try.prog 12 #[.slice u0.1 code.length u0.2, .slice u1.1 more.length u1.2] w fun e w' => e = .returned (.bool true) ∧ Below w.heap.size w w' := by
  have hm0 := g0.1
  have hm1 := g1.1
  have hg0 : GCode code := g0.2
  have hg1 : GCode more := g1.2
  have HC := Aside0.mk e0.1
  have HM := Aside0.mk e1.1
  obtain ⟨A0, c0⟩ := u0
  obtain ⟨A1, c1⟩ := u1
  simp only at HC HM ⊢
  clear e0 e1 g0 g1
  by_cases hl0 : (1048576 : Int) < (code.length : Int)
  · go_enter Try.func12, Try.ntmps12
    go_wp2
    go_ret
    exact ⟨rfl, Below.refl _ _⟩
  by_cases hl1 : (1048576 : Int) < (more.length : Int)
  · go_enter Try.func12, Try.ntmps12
    go_wp2
    go_ret
    exact ⟨rfl, Below.refl _ _⟩
  have hlm : more.length ≤ 1048576 := by omega
  have hlc : code.length ≤ 1048576 := by omega
  obtain ⟨n, hn⟩ : ∃ n, n = netG code := ⟨_, rfl⟩
  have hgd : netGood n = true := by rw [hn]; exact netG_good code
  have hgood := Good.of hgd
  have hfit : NetFits n := by rw [hn]; exact netG_fits code
  have HGD := Aside0.mk hgd
  have HG := Aside0.mk hgood
  have HF := Aside0.mk hfit
  have HN := Aside0.mk hn
  have hj120 := hgood.j1
  obtain ⟨⟨sp, sa, sw⟩, hs⟩ : ∃ s, s = spotG n more := ⟨_, rfl⟩
  have hsb : spotB n ⟨sp, sa, sw⟩ = true := by rw [hs]; exact spotG_ok hgood more
  have HS := Aside0.mk hs
  have HSB := Aside0.mk hsb
  obtain ⟨ls, hls⟩ : ∃ l, l = liesG n more := ⟨_, rfl⟩
  have hlb : liesB n ls = true := by rw [hls]; exact liesG_ok n more
  have HLS := Aside0.mk hls
  have HLB := Aside0.mk hlb
  have hab := wholeV_bd hg1 3
  obtain ⟨a, ha⟩ : ∃ a, a = wholeV more 3 := ⟨_, rfl⟩
  rw [← ha] at hab
  have HA := Aside0.mk ha
  obtain ⟨hs0, hs1, hsw, hs2, hs3⟩ := spotB_iff.1 hsb
  simp only at hs0 hs1 hsw hs2 hs3
  obtain ⟨pn, rfl⟩ := Int.eq_ofNat_of_zero_le hs0
  have hpn : pn < n.pieces.length := by omega
  have hlen := hgood.len hs0 hs1
  obtain ⟨L, hL⟩ : ∃ L, L = (n.pieces.getD pn default).len := ⟨_, rfl⟩
  have hL2 : lenP n (pn : Int) = L := by unfold lenP; rw [Int.toNat_natCast, hL]
  rw [hL2] at hs3 hlen
  have HL := Aside0.mk hL
  obtain ⟨sb, hsbe⟩ : ∃ sb, sb = (if sw = 1 ∧ sa = L then 0 else if sw = -1 ∧ sa = 0 then L else sa) := ⟨_, rfl⟩
  have hsb2 : spotB n ⟨(pn : Int), sb, sw⟩ = true := by
    rw [spotB_iff]
    simp only
    rw [hL2, hsbe]
    refine ⟨hs0, hs1, hsw, ?_, ?_⟩ <;> (split <;> (try split) <;> omega)
  have hroom : 0 < roomS n ⟨(pn : Int), sb, sw⟩ := by
    unfold roomS
    simp only
    rw [hL2, hsbe]
    split <;> (split <;> (try split) <;> omega)
  have HSE := Aside0.mk hsbe
  obtain ⟨⟨xc, xf, xj, ⟨xp, xa, xw⟩, xps⟩, hx⟩ : ∃ X, X = driveR n ls ⟨(pn : Int), sb, sw⟩ a := ⟨_, rfl⟩
  have Hx := Aside0.mk hx.symm
  have hback := back_law hgd hlb hsb2 hab.1 (by omega) hroom
  have hx4 : (driveR n ls ⟨(pn : Int), sb, sw⟩ a).code ≠ 4 := by rw [driveR_is hgd hlb hsb2 hab.1 (by omega)]; exact drv_not4 1000 _ a
  rw [← hx] at hback hx4
  simp only at hback hx4
  obtain ⟨⟨yc, yf, yj, ⟨yp, ya, yw⟩, yps⟩, hy⟩ : ∃ X, X = driveR n ls (turnV n ⟨xp, xa, xw⟩) xf := ⟨_, rfl⟩
  have Hy := Aside0.mk hy.symm
  rw [← hy] at hback
  simp only at hback
  obtain ⟨⟨tp, ta, tw⟩, hT⟩ : ∃ t, t = turnV n ⟨xp, xa, xw⟩ := ⟨_, rfl⟩
  obtain ⟨⟨rp, ra, rw_⟩, hR⟩ : ∃ t, t = turnV n ⟨(pn : Int), sb, sw⟩ := ⟨_, rfl⟩
  rw [← hT] at Hy
  rw [← hR] at hback
  have HT := Aside0.mk hT.symm
  have HRR := Aside0.mk hR.symm
  have HBK := Aside0.mk hback
  have hi0 : (0 : Int) ≤ (pn : Int) := by omega
  have hi1 : (pn : Int) < (n.pieces.length : Int) := by omega
  clear hls hlb hs hsb hn hgd hgood hfit ha hL hL2 hsbe hsb2 hroom hback hx hy hT hR
  go_enter Try.func12, Try.ntmps12
  have FB : Aside0 (Below w.heap.size w w) := ⟨Below.refl _ _⟩
  have HC0 := HC
  have HM0 := HM
  go_wp2_with fail
  refine (nets_of code A0 c0 n _ HC.out hg0 HN.out).mono ?_
  rintro e w1 ⟨u, rfl, ru, b1⟩
  replace HC := Aside0.mk (Kd.C_below HC.out b1)
  replace HM := Aside0.mk (Kd.C_below HM.out b1)
  replace FB := Aside0.mk (below_more FB.out b1)
  have RU := Aside0.mk (ru)
  clear b1
  clear ru
  have RU1 := RU
  have B1 : Aside0 (Below w1.heap.size w1 w1) := ⟨Below.refl _ _⟩
  have N5_ := Aside0.mk (Bx.new w1 [.slice u.1.1 n.pieces.length u.1.2, .slice u.2.1 n.joints.length u.2.2] 35)
  replace HC := Aside0.mk (Kd.C_alloc HC.out (.cells #[.slice u.1.1 n.pieces.length u.1.2, .slice u.2.1 n.joints.length u.2.2] 35))
  replace HM := Aside0.mk (Kd.C_alloc HM.out (.cells #[.slice u.1.1 n.pieces.length u.1.2, .slice u.2.1 n.joints.length u.2.2] 35))
  replace FB := Aside0.mk (below_alloc FB.out (.cells #[.slice u.1.1 n.pieces.length u.1.2, .slice u.2.1 n.joints.length u.2.2] 35))
  replace RU := Aside0.mk (RU.out.below (below_alloc (Below.refl _ _) (.cells #[.slice u.1.1 n.pieces.length u.1.2, .slice u.2.1 n.joints.length u.2.2] 35)))
  replace B1 := Aside0.mk (below_alloc B1.out (.cells #[.slice u.1.1 n.pieces.length u.1.2, .slice u.2.1 n.joints.length u.2.2] 35))
  have N5 := N5_
  have n0 := N5.out.c 0 _ rfl
  have n1 := N5.out.c 1 _ rfl
  go_wp2_with fail
  refine (aspot_any n u more A1 c1 _ RU.out HG.out HM.out hg1).mono ?_
  rintro e w2 ⟨rfl, b2⟩
  rw [← HS.out]
  simp only
  clear n0 n1
  replace HC := Aside0.mk (Kd.C_below HC.out b2)
  replace HM := Aside0.mk (Kd.C_below HM.out b2)
  replace FB := Aside0.mk (below_more FB.out b2)
  replace RU := Aside0.mk (RU.out.below b2)
  replace B1 := Aside0.mk (below_more B1.out b2)
  replace N5 := Aside0.mk (N5.out.below b2)
  clear b2
  have hw12 := N5.out.lt
  have hz02 := FB.out.size
  have S6_ := Aside0.mk (Bx.new w2 [.int .i64 (pn : Int), .int .i64 sa, .int .i64 sw] 38)
  replace HC := Aside0.mk (Kd.C_alloc HC.out (.cells #[.int .i64 (pn : Int), .int .i64 sa, .int .i64 sw] 38))
  replace HM := Aside0.mk (Kd.C_alloc HM.out (.cells #[.int .i64 (pn : Int), .int .i64 sa, .int .i64 sw] 38))
  replace FB := Aside0.mk (below_alloc FB.out (.cells #[.int .i64 (pn : Int), .int .i64 sa, .int .i64 sw] 38))
  replace RU := Aside0.mk (RU.out.below (below_alloc (Below.refl _ _) (.cells #[.int .i64 (pn : Int), .int .i64 sa, .int .i64 sw] 38)))
  replace B1 := Aside0.mk (below_alloc B1.out (.cells #[.int .i64 (pn : Int), .int .i64 sa, .int .i64 sw] 38))
  replace N5 := Aside0.mk (N5.out.alloc (.cells #[.int .i64 (pn : Int), .int .i64 sa, .int .i64 sw] 38))
  have S6 := S6_
  have n0 := N5.out.c 0 _ rfl
  have n1 := N5.out.c 1 _ rfl
  go_wp2_with fail
  refine (lies_any n u more A1 c1 _ RU.out hj120 HM.out hg1).mono ?_
  rintro e w3 ⟨v1, rfl, rv, b3⟩
  rw [← HLS.out] at rv
  obtain ⟨LA, lc, rfl⟩ := Kd.R_slice rv
  clear n0 n1
  replace HC := Aside0.mk (Kd.C_below HC.out b3)
  replace HM := Aside0.mk (Kd.C_below HM.out b3)
  replace FB := Aside0.mk (below_more FB.out b3)
  replace RU := Aside0.mk (RU.out.below b3)
  replace B1 := Aside0.mk (below_more B1.out b3)
  replace N5 := Aside0.mk (N5.out.below b3)
  replace S6 := Aside0.mk (S6.out.below b3)
  have RL := Aside0.mk (rv)
  clear b3
  clear rv
  obtain ⟨ad0, ea0, _, y1, _, _⟩ := at_Piece RU.out.1.1 pn hpn
  rw [← HL.out] at y1
  have Y1 := Aside0.mk y1
  have EA0 := Aside0.mk ea0
  clear y1 ea0
  have S6c := S6
  have hs6 : w1.heap.size < w2.heap.size + 1 := by omega
  have n0 := N5.out.c 0 _ rfl
  have n1 := N5.out.c 1 _ rfl
  have t0 := S6.out.c 0 _ rfl
  have t1 := S6.out.c 1 _ rfl
  have t2 := S6.out.c 2 _ rfl
  obtain ⟨bA, hbA⟩ : ∃ b, b = decide (sw = 1 ∧ sa = L) := ⟨_, rfl⟩
  have HBA := Aside0.mk hbA
  clear hbA
  go_wp2_with fail
  go_cut [40] (fun s40 W => s40 = .bool bA ∧ Aside0 (Below w3.heap.size w3 W))
  case first =>
    have y1 := Y1.out
    have ea0 := EA0.out
    by_cases hw1 : sw = 1
    · by_cases hsL : sa = L
      · have hd1 : (sw == 1) = true := by simpa using hw1
        have hd2 : (sa == L) = true := by simpa using hsL
        have hv : Aside0 (bA = true) := ⟨by rw [HBA.out]; simp [hw1, hsL]⟩
        clear hw1 hsL
        go_quiet (fail)
        all_goals
          try go_wp2_with fail
          go_meet
          case rel => exact ⟨by rw [hv.out], ⟨below_drewN' (Below.refl _ _) _⟩⟩
      · have hd1 : (sw == 1) = true := by simpa using hw1
        have hd2 : (sa == L) = false := by simpa using hsL
        have hv : Aside0 (bA = false) := ⟨by rw [HBA.out]; simp [hsL]⟩
        clear hw1 hsL
        go_quiet (fail)
        all_goals
          try go_wp2_with fail
          go_meet
          case rel => exact ⟨by rw [hv.out], ⟨below_drewN' (Below.refl _ _) _⟩⟩
    · have hd : (sw == 1) = false := by simpa using hw1
      go_quiet (fail)
      all_goals
        try go_wp2_with fail
        go_meet
        case rel => exact ⟨by rw [HBA.out]; simp [hw1], ⟨below_drewN' (Below.refl _ _) _⟩⟩
  case rest =>
  obtain ⟨rfl, B3⟩ := hcut
  clear n0 n1 t0 t1 t2
  replace HC := Aside0.mk (Kd.C_below HC.out B3.out)
  replace HM := Aside0.mk (Kd.C_below HM.out B3.out)
  replace FB := Aside0.mk (below_more FB.out B3.out)
  replace RU := Aside0.mk (RU.out.below B3.out)
  replace B1 := Aside0.mk (below_more B1.out B3.out)
  replace N5 := Aside0.mk (N5.out.below B3.out)
  replace S6 := Aside0.mk (S6.out.below B3.out)
  replace RL := Aside0.mk (Kd.R_below RL.out B3.out)
  have y1 := pw_cell_below B3.out Y1.out
  clear B3
  go_upto_if 40 with (fail)
  go_cut [7] (fun s7 W => s7 = .slice LA ls.length lc ∧ Aside0 (Below w.heap.size w W) ∧ Aside0 (Below w1.heap.size w1 W) ∧ Aside0 (Bx W w1.heap.size [.slice u.1.1 n.pieces.length u.1.2, .slice u.2.1 n.joints.length u.2.2]) ∧ Aside0 (Bx W w2.heap.size [.int .i64 (pn : Int), .int .i64 sb, .int .i64 sw]) ∧ Aside0 (Kd.R (Kd.int .i64) 3 W (w2.heap.size + 1) (fun _ => True) (.slice LA ls.length lc) ls))
  case first =>
    have RL2 := Aside0.mk (Kd.R_lower RL.out (base' := w2.heap.size + 1) (by simp))
    have ea0 := EA0.out
    have n0 := N5.out.c 0 _ rfl; have t0 := S6.out.c 0 _ rfl; have t1 := S6.out.c 1 _ rfl; have t2 := S6.out.c 2 _ rfl; have tf1 := S6.out.f 1; have tlt := S6.out.lt
    have fin : ∀ x, sb = x → Aside0 (Below w.heap.size w (wc.setCell ⟨w2.heap.size, 1, none⟩ (.int .i64 x))) ∧ Aside0 (Below w1.heap.size w1 (wc.setCell ⟨w2.heap.size, 1, none⟩ (.int .i64 x))) ∧ Aside0 (Bx (wc.setCell ⟨w2.heap.size, 1, none⟩ (.int .i64 x)) w1.heap.size [.slice u.1.1 n.pieces.length u.1.2, .slice u.2.1 n.joints.length u.2.2]) ∧ Aside0 (Bx (wc.setCell ⟨w2.heap.size, 1, none⟩ (.int .i64 x)) w2.heap.size [.int .i64 (pn : Int), .int .i64 sb, .int .i64 sw]) ∧ Aside0 (Kd.R (Kd.int .i64) 3 (wc.setCell ⟨w2.heap.size, 1, none⟩ (.int .i64 x)) (w2.heap.size + 1) (fun _ => True) (.slice LA ls.length lc) ls) := fun x hx => by
      subst hx
      exact ⟨⟨below_set FB.out hz02⟩, ⟨below_set B1.out (by omega)⟩, ⟨N5.out.far (show w1.heap.size ≠ w2.heap.size by omega) _⟩, ⟨S6.out.set (i := 1) (by simp) _⟩, ⟨R_apart RL2.out (by show w2.heap.size < _; omega) _⟩⟩
    have FIN := Aside0.mk fin
    have hse := HSE.out
    clear fin
    by_cases hA : sw = 1 ∧ sa = L
    · have hd : bA = true := by rw [HBA.out]; simpa using hA
      subst hd
      have e : sb = 0 := by rw [hse, if_pos hA]
      have HE := Aside0.mk e
      clear hA e hse
      go_wp2_with fail
      go_meet
      case rel => exact ⟨rfl, FIN.out 0 HE.out⟩
    · have hd : bA = false := by rw [HBA.out]; simpa using hA
      subst hd
      rw [if_neg hA] at hse
      by_cases hB : sw = -1 ∧ sa = 0
      · have hd2 : (sw == -1) = true := by simpa using hB.1
        have hd3 : (sa == 0) = true := by simpa using hB.2
        have e : sb = L := by rw [hse, if_pos hB]
        have HE := Aside0.mk e
        clear hA hB e hse
        go_wp2_with fail
        go_meet
        case rel => exact ⟨rfl, FIN.out L HE.out⟩
      · have e : sb = sa := by rw [hse, if_neg hB]
        have HE := Aside0.mk e
        by_cases hw1 : sw = -1
        · have hd2 : (sw == -1) = true := by simpa using hw1
          have hd3 : (sa == 0) = false := by
            have : ¬ sa = 0 := fun h => hB ⟨hw1, h⟩
            simpa using this
          clear hA hB e hse hw1
          go_wp2_with fail
          go_meet
          case rel => exact ⟨rfl, FB, B1, N5, ⟨by rw [HE.out]; exact S6.out⟩, RL2⟩
        · have hd2 : (sw == -1) = false := by simpa using hw1
          clear hA hB e hse hw1
          go_wp2_with fail
          go_meet
          case rel => exact ⟨rfl, FB, B1, N5, ⟨by rw [HE.out]; exact S6.out⟩, RL2⟩
  case rest =>
  clear FB B1 N5 S6 RL y1
  obtain ⟨rfl, FB, B1, N5, S6, RL⟩ := hcut
  replace RU := Aside0.mk (RU1.out.below B1.out)
  replace HC := Aside0.mk (Kd.C_below HC0.out FB.out)
  replace HM := Aside0.mk (Kd.C_below HM0.out FB.out)
  have RLC := Aside0.mk (Kd.R_reads' RL.out).2.2
  clear B1
  obtain ⟨W6, hW6⟩ : ∃ W6, W6 = wc := ⟨_, rfl⟩
  subst hW6
  go_wp2_with fail
  have HSp : Aside0 (∀ W, Below W6.heap.size W6 W → (Below W6.heap.size W6 W ∧ W.cell? ⟨w1.heap.size, 0, none⟩ = some (.slice u.1.1 n.pieces.length u.1.2) ∧ W.cell? ⟨w1.heap.size, 1, none⟩ = some (.slice u.2.1 n.joints.length u.2.2) ∧ W.cell? ⟨w2.heap.size, 0, none⟩ = some (.int .i64 (pn : Int)) ∧ W.cell? ⟨w2.heap.size, 1, none⟩ = some (.int .i64 sb) ∧ W.cell? ⟨w2.heap.size, 2, none⟩ = some (.int .i64 sw))) := ⟨fun W hb => ⟨hb, (N5.out.below hb).c 0 _ rfl, (N5.out.below hb).c 1 _ rfl, (S6.out.below hb).c 0 _ rfl, (S6.out.below hb).c 1 _ rfl, (S6.out.below hb).c 2 _ rfl⟩⟩
  go_cut [8] (fun sv W => ∃ bn, sv = .pointer (some ⟨bn, 0, none⟩) ∧ Aside0 (Below W6.heap.size W6 W) ∧ Aside0 (Bx W bn [.int .i64 xc, .int .i64 xf, .int .i64 xj, .int .i64 xp, .int .i64 xa, .int .i64 xw]))
  case first =>
    go_region_held3 (fun W => Below W6.heap.size W6 W ∧ W.cell? ⟨w1.heap.size, 0, none⟩ = some (.slice u.1.1 n.pieces.length u.1.2) ∧ W.cell? ⟨w1.heap.size, 1, none⟩ = some (.slice u.2.1 n.joints.length u.2.2) ∧ W.cell? ⟨w2.heap.size, 0, none⟩ = some (.int .i64 (pn : Int)) ∧ W.cell? ⟨w2.heap.size, 1, none⟩ = some (.int .i64 sb) ∧ W.cell? ⟨w2.heap.size, 2, none⟩ = some (.int .i64 sw))
      (first | (with_reducible assumption) | (with_reducible exact HSp.out _ (by with_reducible assumption)) | (with_reducible exact HSp.out _ (by repeat (first | (with_reducible assumption) | (with_reducible refine below_set ?_ (Below.size (by with_reducible assumption))) | (with_reducible refine below_set ?_ (Nat.le_refl _)) | (with_reducible refine below_set ?_ (by omega)) | (with_reducible refine below_alloc ?_ _) | (with_reducible exact Below.refl _ _) | (with_reducible refine below_drew ?_)))))
      (first
        | (go_at_call 36; go_split_ands; (with_reducible refine Calls.mono (wWhole_any more A1 c1 3 _ _ (Kd.C_below HM.out (by assumption)) hg1 rfl (by omega) hlm) ?_); rintro e pw0 ⟨rfl, rfl⟩; rw [← HA.out])
        | (go_at_call 37; go_split_ands; (with_reducible refine Calls.mono (implDrive_any n u (LA, lc) ls ⟨(pn : Int), sb, sw⟩ a _ (RU.out.below (by assumption)) (Kd.C_below RLC.out (by assumption)) HF.out) ?_); rintro e pw1 ⟨rfl, b3⟩; rw [Hx.out]; simp only [drvV]; have pq1 : Below W6.heap.size W6 pw1 := below_more (by assumption) b3; have pz1 := pq1.size; (first | (with_reducible have pX1 := Aside0.mk ((Bx.new _ [.int .i64 0, .int .i64 0, .int .i64 0, .int .i64 0, .int .i64 0, .int .i64 0] 44).below b3)) | (with_reducible have pX1 := Aside0.mk ((Bx.drew (Bx.new _ [.int .i64 0, .int .i64 0, .int .i64 0, .int .i64 0, .int .i64 0, .int .i64 0] 44)).below b3)) | skip); (first | (have px0 := pX1.out.c 0 _ rfl; have pxf0 := pX1.out.f 0; have px1 := pX1.out.c 1 _ rfl; have pxf1 := pX1.out.f 1; have px2 := pX1.out.c 2 _ rfl; have pxf2 := pX1.out.f 2; have px3 := pX1.out.c 3 _ rfl; have pxf3 := pX1.out.f 3; have px4 := pX1.out.c 4 _ rfl; have pxf4 := pX1.out.f 4; have px5 := pX1.out.c 5 _ rfl; have pxf5 := pX1.out.f 5; have pxl := pX1.out.lt) | skip); have pQ1 := Aside0.mk pq1; clear b3))
    all_goals
      try go_wp2_with fail
      go_meet
      case rel =>
        first
          | (with_reducible refine ⟨_, rfl, ⟨below_alloc pQ1.out _⟩, ⟨Bx.new' _ _ _ rfl⟩⟩; done)
          | (refine ⟨_, rfl, ⟨?_⟩, ⟨?_⟩⟩
             · repeat (first | (with_reducible exact pQ1.out) | (with_reducible refine below_set ?_ (Below.size (by with_reducible assumption))) | (with_reducible refine below_set ?_ (Nat.le_refl _)) | (with_reducible refine below_set ?_ (by omega)) | (with_reducible refine below_alloc ?_ _))
             · exact ((((((pX1.out.set (i := 0) (by simp) _).set (i := 1) (by simp) _).set (i := 2) (by simp) _).set (i := 3) (by simp) _).set (i := 4) (by simp) _).set (i := 5) (by simp) _))
  case rest =>
  obtain ⟨pb, rfl, pB, X8_⟩ := hcut
  replace HC := Aside0.mk (Kd.C_below HC.out pB.out)
  replace HM := Aside0.mk (Kd.C_below HM.out pB.out)
  replace FB := Aside0.mk (below_more FB.out pB.out)
  replace RU := Aside0.mk (RU.out.below pB.out)
  replace N5 := Aside0.mk (N5.out.below pB.out)
  replace S6 := Aside0.mk (S6.out.below pB.out)
  replace RLC := Aside0.mk (Kd.C_below RLC.out pB.out)
  have X8 := X8_
  obtain ⟨W7, hW7⟩ : ∃ W7, W7 = wc := ⟨_, rfl⟩
  subst hW7
  have hx4b : (xc == 4) = false := by simpa using hx4
  have n0 := N5.out.c 0 _ rfl
  have n1 := N5.out.c 1 _ rfl
  have t0 := S6.out.c 0 _ rfl
  have t1 := S6.out.c 1 _ rfl
  have t2 := S6.out.c 2 _ rfl
  have x0 := X8.out.c 0 _ rfl
  have x1 := X8.out.c 1 _ rfl
  have x2 := X8.out.c 2 _ rfl
  have x3 := X8.out.c 3 _ rfl
  have x4 := X8.out.c 4 _ rfl
  have x5 := X8.out.c 5 _ rfl
  by_cases hf0 : xf = 0
  · skip
    subst xf
    go_wp2_with fail
    have HSr : Aside0 (∀ W, Below W7.heap.size W7 W → (Below W7.heap.size W7 W ∧ W.cell? ⟨pb, 0, none⟩ = some (.int .i64 xc) ∧ W.cell? ⟨pb, 1, none⟩ = some (.int .i64 0) ∧ W.cell? ⟨pb, 2, none⟩ = some (.int .i64 xj) ∧ W.cell? ⟨pb, 3, none⟩ = some (.int .i64 xp) ∧ W.cell? ⟨pb, 4, none⟩ = some (.int .i64 xa) ∧ W.cell? ⟨pb, 5, none⟩ = some (.int .i64 xw) ∧ W.cell? ⟨w1.heap.size, 0, none⟩ = some (.slice u.1.1 n.pieces.length u.1.2) ∧ W.cell? ⟨w1.heap.size, 1, none⟩ = some (.slice u.2.1 n.joints.length u.2.2) ∧ W.cell? ⟨w2.heap.size, 0, none⟩ = some (.int .i64 (pn : Int)) ∧ W.cell? ⟨w2.heap.size, 1, none⟩ = some (.int .i64 sb) ∧ W.cell? ⟨w2.heap.size, 2, none⟩ = some (.int .i64 sw))) := ⟨fun W hb => ⟨hb, (X8.out.below hb).c 0 _ rfl, (X8.out.below hb).c 1 _ rfl, (X8.out.below hb).c 2 _ rfl, (X8.out.below hb).c 3 _ rfl, (X8.out.below hb).c 4 _ rfl, (X8.out.below hb).c 5 _ rfl, (N5.out.below hb).c 0 _ rfl, (N5.out.below hb).c 1 _ rfl, (S6.out.below hb).c 0 _ rfl, (S6.out.below hb).c 1 _ rfl, (S6.out.below hb).c 2 _ rfl⟩⟩
    go_region_held3 (fun W => Below W7.heap.size W7 W ∧ W.cell? ⟨pb, 0, none⟩ = some (.int .i64 xc) ∧ W.cell? ⟨pb, 1, none⟩ = some (.int .i64 0) ∧ W.cell? ⟨pb, 2, none⟩ = some (.int .i64 xj) ∧ W.cell? ⟨pb, 3, none⟩ = some (.int .i64 xp) ∧ W.cell? ⟨pb, 4, none⟩ = some (.int .i64 xa) ∧ W.cell? ⟨pb, 5, none⟩ = some (.int .i64 xw) ∧ W.cell? ⟨w1.heap.size, 0, none⟩ = some (.slice u.1.1 n.pieces.length u.1.2) ∧ W.cell? ⟨w1.heap.size, 1, none⟩ = some (.slice u.2.1 n.joints.length u.2.2) ∧ W.cell? ⟨w2.heap.size, 0, none⟩ = some (.int .i64 (pn : Int)) ∧ W.cell? ⟨w2.heap.size, 1, none⟩ = some (.int .i64 sb) ∧ W.cell? ⟨w2.heap.size, 2, none⟩ = some (.int .i64 sw))
      (first | assumption | (with_reducible exact HSr.out _ (by assumption)) | (with_reducible exact HSr.out _ (Below.drew (Below.refl _ _))))
      (first
        | (go_at_call 36; go_split_ands; (with_reducible refine Calls.mono (wWhole_any more A1 c1 3 _ _ (Kd.C_below HM.out (by assumption)) hg1 rfl (by omega) hlm) ?_); rintro e rw0 ⟨rfl, rfl⟩; rw [← HA.out])
        | (go_at_call 38; go_split_ands; (with_reducible refine Calls.mono (specDrive_any n u (LA, lc) ls ⟨(pn : Int), sb, sw⟩ a _ (RU.out.below (by assumption)) (Kd.C_below RLC.out (by assumption)) HF.out) ?_); rintro e rw1 ⟨rfl, b3⟩; rw [Hx.out]; simp only [drvV]; have rq1 : Below W7.heap.size W7 rw1 := below_more (by assumption) b3; have rQ1 := Aside0.mk rq1; clear b3))
    replace HC := Aside0.mk (Kd.C_below HC.out rQ1.out)
    replace HM := Aside0.mk (Kd.C_below HM.out rQ1.out)
    replace FB := Aside0.mk (below_more FB.out rQ1.out)
    replace RU := Aside0.mk (RU.out.below rQ1.out)
    replace N5 := Aside0.mk (N5.out.below rQ1.out)
    replace S6 := Aside0.mk (S6.out.below rQ1.out)
    replace RLC := Aside0.mk (Kd.C_below RLC.out rQ1.out)
    replace X8 := Aside0.mk (X8.out.below rQ1.out)
    go_wp2_with fail
    go_ret
    exact ⟨by simp, FB.out⟩
  · skip
    have hf0b : (xf == 0) = false := by simpa using hf0
    obtain ⟨hq0, hq1, hq2, hq3, hq4, hq5, hq6⟩ := HBK.out hf0
    injection hq6 with hq6 hq7 hq8
    clear hq0 hq1 hq2 hq3
    subst yc yf yp ya yw
    go_wp2_with fail
    have HSq : Aside0 (∀ W, Below W7.heap.size W7 W → (Below W7.heap.size W7 W ∧ W.cell? ⟨pb, 0, none⟩ = some (.int .i64 xc) ∧ W.cell? ⟨pb, 1, none⟩ = some (.int .i64 xf) ∧ W.cell? ⟨pb, 2, none⟩ = some (.int .i64 xj) ∧ W.cell? ⟨pb, 3, none⟩ = some (.int .i64 xp) ∧ W.cell? ⟨pb, 4, none⟩ = some (.int .i64 xa) ∧ W.cell? ⟨pb, 5, none⟩ = some (.int .i64 xw) ∧ W.cell? ⟨w1.heap.size, 0, none⟩ = some (.slice u.1.1 n.pieces.length u.1.2) ∧ W.cell? ⟨w1.heap.size, 1, none⟩ = some (.slice u.2.1 n.joints.length u.2.2))) := ⟨fun W hb => ⟨hb, (X8.out.below hb).c 0 _ rfl, (X8.out.below hb).c 1 _ rfl, (X8.out.below hb).c 2 _ rfl, (X8.out.below hb).c 3 _ rfl, (X8.out.below hb).c 4 _ rfl, (X8.out.below hb).c 5 _ rfl, (N5.out.below hb).c 0 _ rfl, (N5.out.below hb).c 1 _ rfl⟩⟩
    go_cut [9] (fun sv W => ∃ bn, sv = .pointer (some ⟨bn, 0, none⟩) ∧ Aside0 (Below W7.heap.size W7 W) ∧ Aside0 (Bx W bn [.int .i64 0, .int .i64 xf, .int .i64 yj, .int .i64 rp, .int .i64 ra, .int .i64 rw_]))
    case first =>
      go_region_held3 (fun W => Below W7.heap.size W7 W ∧ W.cell? ⟨pb, 0, none⟩ = some (.int .i64 xc) ∧ W.cell? ⟨pb, 1, none⟩ = some (.int .i64 xf) ∧ W.cell? ⟨pb, 2, none⟩ = some (.int .i64 xj) ∧ W.cell? ⟨pb, 3, none⟩ = some (.int .i64 xp) ∧ W.cell? ⟨pb, 4, none⟩ = some (.int .i64 xa) ∧ W.cell? ⟨pb, 5, none⟩ = some (.int .i64 xw) ∧ W.cell? ⟨w1.heap.size, 0, none⟩ = some (.slice u.1.1 n.pieces.length u.1.2) ∧ W.cell? ⟨w1.heap.size, 1, none⟩ = some (.slice u.2.1 n.joints.length u.2.2))
        (first | (with_reducible assumption) | (with_reducible exact HSq.out _ (by with_reducible assumption)) | (with_reducible exact HSq.out _ (by repeat (first | (with_reducible assumption) | (with_reducible refine below_set ?_ (Below.size (by with_reducible assumption))) | (with_reducible refine below_set ?_ (Nat.le_refl _)) | (with_reducible refine below_set ?_ (by omega)) | (with_reducible refine below_alloc ?_ _) | (with_reducible exact Below.refl _ _) | (with_reducible refine below_drew ?_)))))
        (first
          | (go_at_call 54; go_split_ands; (with_reducible refine Calls.mono (implTurn_any n u ⟨xp, xa, xw⟩ _ (RU.out.below (by assumption)) HF.out) ?_); rintro e qw0 ⟨rfl, b3⟩; rw [HT.out]; simp only; have qq0 : Below W7.heap.size W7 qw0 := below_more (by assumption) b3; have qz0 := qq0.size; (first | (with_reducible have qX0 := Aside0.mk ((Bx.new _ [.int .i64 0, .int .i64 0, .int .i64 0, .int .i64 0, .int .i64 0, .int .i64 0] 44).below b3)) | (with_reducible have qX0 := Aside0.mk ((Bx.drew (Bx.new _ [.int .i64 0, .int .i64 0, .int .i64 0, .int .i64 0, .int .i64 0, .int .i64 0] 44)).below b3)) | skip); have qQ0 := Aside0.mk qq0; clear b3)
          | (go_at_call 37; go_split_ands; (with_reducible refine Calls.mono (implDrive_any n u (LA, lc) ls ⟨tp, ta, tw⟩ xf _ (RU.out.below (by assumption)) (Kd.C_below RLC.out (by assumption)) HF.out) ?_); rintro e qw1 ⟨rfl, b3⟩; rw [Hy.out]; simp only [drvV]; have qq1 : Below W7.heap.size W7 qw1 := below_more (by assumption) b3; have qz1 := qq1.size; (first | (with_reducible have qX1 := Aside0.mk (qX0.out.below b3)) | (with_reducible have qX1 := Aside0.mk ((Bx.new _ [.int .i64 0, .int .i64 0, .int .i64 0, .int .i64 0, .int .i64 0, .int .i64 0] 44).below b3)) | (with_reducible have qX1 := Aside0.mk ((Bx.drew (Bx.new _ [.int .i64 0, .int .i64 0, .int .i64 0, .int .i64 0, .int .i64 0, .int .i64 0] 44)).below b3)) | skip); (first | (have qx0 := qX1.out.c 0 _ rfl; have qxf0 := qX1.out.f 0; have qx1 := qX1.out.c 1 _ rfl; have qxf1 := qX1.out.f 1; have qx2 := qX1.out.c 2 _ rfl; have qxf2 := qX1.out.f 2; have qx3 := qX1.out.c 3 _ rfl; have qxf3 := qX1.out.f 3; have qx4 := qX1.out.c 4 _ rfl; have qxf4 := qX1.out.f 4; have qx5 := qX1.out.c 5 _ rfl; have qxf5 := qX1.out.f 5; have qxl := qX1.out.lt) | skip); have qQ1 := Aside0.mk qq1; clear b3))
      all_goals
        try go_wp2_with fail
        go_meet
        case rel =>
          first
            | (with_reducible refine ⟨_, rfl, ⟨below_alloc qQ1.out _⟩, ⟨Bx.new' _ _ _ rfl⟩⟩; done)
            | (refine ⟨_, rfl, ⟨?_⟩, ⟨?_⟩⟩
               · repeat (first | (with_reducible exact qQ1.out) | (with_reducible refine below_set ?_ (Below.size (by with_reducible assumption))) | (with_reducible refine below_set ?_ (Nat.le_refl _)) | (with_reducible refine below_set ?_ (by omega)) | (with_reducible refine below_alloc ?_ _))
               · exact ((((((qX1.out.set (i := 0) (by simp) _).set (i := 1) (by simp) _).set (i := 2) (by simp) _).set (i := 3) (by simp) _).set (i := 4) (by simp) _).set (i := 5) (by simp) _))
    case rest =>
    obtain ⟨qb, rfl, qB, Y9_⟩ := hcut
    clear n0 n1 t0 t1 t2 x0 x1 x2 x3 x4 x5
    replace HC := Aside0.mk (Kd.C_below HC.out qB.out)
    replace HM := Aside0.mk (Kd.C_below HM.out qB.out)
    replace FB := Aside0.mk (below_more FB.out qB.out)
    replace RU := Aside0.mk (RU.out.below qB.out)
    replace N5 := Aside0.mk (N5.out.below qB.out)
    replace S6 := Aside0.mk (S6.out.below qB.out)
    replace RLC := Aside0.mk (Kd.C_below RLC.out qB.out)
    replace X8 := Aside0.mk (X8.out.below qB.out)
    have Y9 := Y9_
    obtain ⟨W8, hW8⟩ : ∃ W8, W8 = wc := ⟨_, rfl⟩
    subst hW8
    have hff : (xf == xf) = true := by simp
    have n0 := N5.out.c 0 _ rfl
    have n1 := N5.out.c 1 _ rfl
    have t0 := S6.out.c 0 _ rfl
    have t1 := S6.out.c 1 _ rfl
    have t2 := S6.out.c 2 _ rfl
    have x0 := X8.out.c 0 _ rfl
    have x1 := X8.out.c 1 _ rfl
    have x2 := X8.out.c 2 _ rfl
    have x3 := X8.out.c 3 _ rfl
    have x4 := X8.out.c 4 _ rfl
    have x5 := X8.out.c 5 _ rfl
    have y0 := Y9.out.c 0 _ rfl
    have y1 := Y9.out.c 1 _ rfl
    have y2 := Y9.out.c 2 _ rfl
    have y3 := Y9.out.c 3 _ rfl
    have y4 := Y9.out.c 4 _ rfl
    have y5 := Y9.out.c 5 _ rfl
    go_wp2_with fail
    have HSt : Aside0 (∀ W, Below W8.heap.size W8 W → (Below W8.heap.size W8 W ∧ W.cell? ⟨pb, 0, none⟩ = some (.int .i64 xc) ∧ W.cell? ⟨pb, 1, none⟩ = some (.int .i64 xf) ∧ W.cell? ⟨pb, 2, none⟩ = some (.int .i64 xj) ∧ W.cell? ⟨pb, 3, none⟩ = some (.int .i64 xp) ∧ W.cell? ⟨pb, 4, none⟩ = some (.int .i64 xa) ∧ W.cell? ⟨pb, 5, none⟩ = some (.int .i64 xw) ∧ W.cell? ⟨qb, 0, none⟩ = some (.int .i64 0) ∧ W.cell? ⟨qb, 1, none⟩ = some (.int .i64 xf) ∧ W.cell? ⟨qb, 2, none⟩ = some (.int .i64 yj) ∧ W.cell? ⟨qb, 3, none⟩ = some (.int .i64 rp) ∧ W.cell? ⟨qb, 4, none⟩ = some (.int .i64 ra) ∧ W.cell? ⟨qb, 5, none⟩ = some (.int .i64 rw_) ∧ W.cell? ⟨w1.heap.size, 0, none⟩ = some (.slice u.1.1 n.pieces.length u.1.2) ∧ W.cell? ⟨w1.heap.size, 1, none⟩ = some (.slice u.2.1 n.joints.length u.2.2) ∧ W.cell? ⟨w2.heap.size, 0, none⟩ = some (.int .i64 (pn : Int)) ∧ W.cell? ⟨w2.heap.size, 1, none⟩ = some (.int .i64 sb) ∧ W.cell? ⟨w2.heap.size, 2, none⟩ = some (.int .i64 sw))) := ⟨fun W hb => ⟨hb, (X8.out.below hb).c 0 _ rfl, (X8.out.below hb).c 1 _ rfl, (X8.out.below hb).c 2 _ rfl, (X8.out.below hb).c 3 _ rfl, (X8.out.below hb).c 4 _ rfl, (X8.out.below hb).c 5 _ rfl, (Y9.out.below hb).c 0 _ rfl, (Y9.out.below hb).c 1 _ rfl, (Y9.out.below hb).c 2 _ rfl, (Y9.out.below hb).c 3 _ rfl, (Y9.out.below hb).c 4 _ rfl, (Y9.out.below hb).c 5 _ rfl, (N5.out.below hb).c 0 _ rfl, (N5.out.below hb).c 1 _ rfl, (S6.out.below hb).c 0 _ rfl, (S6.out.below hb).c 1 _ rfl, (S6.out.below hb).c 2 _ rfl⟩⟩
    go_region_held3 (fun W => Below W8.heap.size W8 W ∧ W.cell? ⟨pb, 0, none⟩ = some (.int .i64 xc) ∧ W.cell? ⟨pb, 1, none⟩ = some (.int .i64 xf) ∧ W.cell? ⟨pb, 2, none⟩ = some (.int .i64 xj) ∧ W.cell? ⟨pb, 3, none⟩ = some (.int .i64 xp) ∧ W.cell? ⟨pb, 4, none⟩ = some (.int .i64 xa) ∧ W.cell? ⟨pb, 5, none⟩ = some (.int .i64 xw) ∧ W.cell? ⟨qb, 0, none⟩ = some (.int .i64 0) ∧ W.cell? ⟨qb, 1, none⟩ = some (.int .i64 xf) ∧ W.cell? ⟨qb, 2, none⟩ = some (.int .i64 yj) ∧ W.cell? ⟨qb, 3, none⟩ = some (.int .i64 rp) ∧ W.cell? ⟨qb, 4, none⟩ = some (.int .i64 ra) ∧ W.cell? ⟨qb, 5, none⟩ = some (.int .i64 rw_) ∧ W.cell? ⟨w1.heap.size, 0, none⟩ = some (.slice u.1.1 n.pieces.length u.1.2) ∧ W.cell? ⟨w1.heap.size, 1, none⟩ = some (.slice u.2.1 n.joints.length u.2.2) ∧ W.cell? ⟨w2.heap.size, 0, none⟩ = some (.int .i64 (pn : Int)) ∧ W.cell? ⟨w2.heap.size, 1, none⟩ = some (.int .i64 sb) ∧ W.cell? ⟨w2.heap.size, 2, none⟩ = some (.int .i64 sw))
      (first | assumption | (with_reducible exact HSt.out _ (by assumption)) | (with_reducible exact HSt.out _ (Below.drew (Below.refl _ _))))
      (first
        | (go_at_call 54; go_split_ands; (with_reducible refine Calls.mono (implTurn_any n u ⟨(pn : Int), sb, sw⟩ _ (RU.out.below (by assumption)) HF.out) ?_); rintro e tw0 ⟨rfl, b3⟩; rw [HRR.out]; simp only; have tq0 : Below W8.heap.size W8 tw0 := below_more (by assumption) b3; have tQ0 := Aside0.mk tq0; clear b3))
    replace HC := Aside0.mk (Kd.C_below HC.out tQ0.out)
    replace HM := Aside0.mk (Kd.C_below HM.out tQ0.out)
    replace FB := Aside0.mk (below_more FB.out tQ0.out)
    replace RU := Aside0.mk (RU.out.below tQ0.out)
    replace N5 := Aside0.mk (N5.out.below tQ0.out)
    replace S6 := Aside0.mk (S6.out.below tQ0.out)
    replace RLC := Aside0.mk (Kd.C_below RLC.out tQ0.out)
    replace X8 := Aside0.mk (X8.out.below tQ0.out)
    replace Y9 := Aside0.mk (Y9.out.below tQ0.out)
    go_wp2_with fail
    go_ret
    exact ⟨by simp, FB.out⟩
end Go.Proofs.Ytckcffjnffcjcaa
