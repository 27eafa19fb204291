/- Proved: a call of FnParts returns true and changes nothing that was there, whatever it is given. No conditions. -/
import Derived.Test.YtckcffjnffcjcaaGen6
import Derived.Test.YtckcffjnffcjcaaDr9
import Derived.Test.YtckcffjnffcjcaaLaws1
import Derived.Test.YtckcffjnffcjcaaTouch2
import Derived.Test.YtckcffjnffcjcaaOver
import Derived.Deep.RegionHeld3
import Derived.Outline
set_option linter.unusedVariables false
set_option linter.unusedSimpArgs false
namespace Go.Proofs.Ytckcffjnffcjcaa
open Go.RowKit Go.Proofs.YtckcffjnffcjcaaW.PrintWords
theorem C_part1 (W : World) (x : PartT) : Kd.C kPart (W.alloc (.cells #[.int .i64 x.piece, .int .i64 x.frm, .int .i64 x.upto] 89)) (some ⟨W.heap.size, 0, none⟩) 1 [x] := by
  have h : Kd.R kPart 89 (W.alloc (.cells #[.int .i64 x.piece, .int .i64 x.frm, .int .i64 x.upto] 89)) 0 (fun _ => True) (.slice (some ⟨W.heap.size, 0, none⟩) 1 1) [x] :=
    R_lits kPart W 89 (xs := [x]) (inner := [.int .i64 x.piece, .int .i64 x.frm, .int .i64 x.upto]) (by
      have := (Reps.none (fun (x : PartT) c => ∀ w base ok, kPart.M w base ok x c) 3).snoc (p := x) (c := [.int .i64 x.piece, .int .i64 x.frm, .int .i64 x.upto]) (fun w base ok => kPart_mkM w base ok x) rfl
      exact this) (by simp) (Nat.zero_le _)
  exact (Kd.R_reads' h).2.2
set_option maxRecDepth 100000 in
set_option maxHeartbeats 8000000 in
theorem FnParts_walk (u0 : Option Addr × Nat) (code : List Int) (u1 : Option Addr × Nat) (more : List Int) (w : World) (e0 : Kd.C (Kd.int .u8) w u0.1 code.length code ∧ code.length ≤ u0.2) (g0 : code.length ≤ 9223372036854775807 ∧ ∀ y ∈ code, 0 ≤ y ∧ y ≤ 255) (e1 : Kd.C (Kd.int .u8) w u1.1 more.length more ∧ more.length ≤ u1.2) (g1 : more.length ≤ 9223372036854775807 ∧ ∀ y ∈ more, 0 ≤ y ∧ y ≤ 255) :
    Calls Try.prog 15 #[.slice u0.1 code.length u0.2, .slice u1.1 more.length u1.2] w fun e w' => e = .returned (.bool true) ∧ Below w.heap.size w w' := by
  have hm0 := g0.1
  have hm1 := g1.1
  have hg0 : GCode code := g0.2
  have hg1 : GCode more := g1.2
  have HC := Aside0.mk e0.1
  have HM := Aside0.mk e1.1
  obtain ⟨A0, c0⟩ := u0
  obtain ⟨A1, c1⟩ := u1
  simp only at HC HM ⊢
  clear e0 e1 g0 g1
  by_cases hl0 : (1048576 : Int) < (code.length : Int)
  · go_enter Try.func15, Try.ntmps15
    go_wp2
    go_ret
    exact ⟨rfl, Below.refl _ _⟩
  by_cases hl1 : (1048576 : Int) < (more.length : Int)
  · go_enter Try.func15, Try.ntmps15
    go_wp2
    go_ret
    exact ⟨rfl, Below.refl _ _⟩
  have hlm : more.length ≤ 1048576 := by omega
  have hlc : code.length ≤ 1048576 := by omega
  obtain ⟨n, hn⟩ : ∃ n, n = netG code := ⟨_, rfl⟩
  have hgd : netGood n = true := by rw [hn]; exact netG_good code
  have hgood := Good.of hgd
  have hfit : NetFits n := by rw [hn]; exact netG_fits code
  have HGD := Aside0.mk hgd
  have HG := Aside0.mk hgood
  have HF := Aside0.mk hfit
  have HN := Aside0.mk hn
  have hj120 := hgood.j1
  obtain ⟨⟨sp, sa, sw⟩, hs⟩ : ∃ s, s = spotG n more := ⟨_, rfl⟩
  have hsb : spotB n ⟨sp, sa, sw⟩ = true := by rw [hs]; exact spotG_ok hgood more
  have HS := Aside0.mk hs
  have HSB := Aside0.mk hsb
  obtain ⟨ls, hls⟩ : ∃ l, l = liesG n more := ⟨_, rfl⟩
  have hlb : liesB n ls = true := by rw [hls]; exact liesG_ok n more
  have HLS := Aside0.mk hls
  have HLB := Aside0.mk hlb
  have hab := wholeV_bd hg1 3
  obtain ⟨a, ha⟩ : ∃ a, a = wholeV more 3 := ⟨_, rfl⟩
  rw [← ha] at hab
  have HA := Aside0.mk ha
  obtain ⟨hs0, hs1, hsw, hs2, hs3⟩ := spotB_iff.1 hsb
  simp only at hs0 hs1 hsw hs2 hs3
  obtain ⟨pn, rfl⟩ := Int.eq_ofNat_of_zero_le hs0
  have hpn : pn < n.pieces.length := by omega
  obtain ⟨L, hL⟩ : ∃ L, L = (n.pieces.getD pn default).len := ⟨_, rfl⟩
  have hL2 : lenP n (pn : Int) = L := by unfold lenP; rw [Int.toNat_natCast, hL]
  have HL := Aside0.mk hL
  have hway : I64 sw := by unfold I64; omega
  have HWAY := Aside0.mk hway
  obtain ⟨hp0, hp1, hp2, hp3⟩ := parts_len hgd hlb hsb hab.1 (by omega)
  have hpl := fun h1 h2 => parts_last hgd hlb hsb hab.1 (by omega) h1 h2
  have hpt := fun h1 h2 h3 => parts_touch hgd hlb hsb hab.1 (by omega) h1 h2 h3
  have hbt := behind_turned (lies := ls) hgd hsb a
  obtain ⟨⟨xc, xf, xj, ⟨xp, xa, xw⟩, xps⟩, hx⟩ : ∃ X, X = driveR n ls ⟨(pn : Int), sa, sw⟩ a := ⟨_, rfl⟩
  have Hx := Aside0.mk hx.symm
  rw [← hx] at hp1 hpl
  obtain ⟨⟨tp, ta, tw⟩, hT⟩ : ∃ t, t = turnV n ⟨(pn : Int), sa, sw⟩ := ⟨_, rfl⟩
  rw [← hT] at hbt
  obtain ⟨PA, hPA⟩ : ∃ l, l = aheadR n ls ⟨(pn : Int), sa, sw⟩ a := ⟨_, rfl⟩
  obtain ⟨PB, hPB⟩ : ∃ l, l = behindR n ls ⟨(pn : Int), sa, sw⟩ a := ⟨_, rfl⟩
  rw [← hPA] at hp0 hp1 hp2 hp3 hpl hpt
  rw [← hPB] at hbt
  simp only [hL2] at hp1 hpl hpt
  have HT := Aside0.mk hT.symm
  have HPA := Aside0.mk hPA.symm
  have HPB := Aside0.mk hPB.symm
  have HBT := Aside0.mk hbt.symm
  have HLEN := Aside0.mk hp1
  have HPL := Aside0.mk hpl
  have HPT := Aside0.mk hpt
  have HLT := Aside0.mk hp2
  have htb2 := touchB_symm PB PA
  obtain ⟨tb, htb⟩ : ∃ b, b = touchB PA PB := ⟨_, rfl⟩
  rw [← htb] at htb2
  have HTB := Aside0.mk htb.symm
  have HTB2 := Aside0.mk htb2
  have hi0 : (0 : Int) ≤ (pn : Int) := by omega
  have hi1 : (pn : Int) < (n.pieces.length : Int) := by omega
  clear hls hlb hs hsb hn hgd hgood hfit ha hL hL2 hp0 hp1 hp2 hpl hpt hbt hx hT hPA hPB hway htb htb2
  go_enter Try.func15, Try.ntmps15
  have FB : Aside0 (Below w.heap.size w w) := ⟨Below.refl _ _⟩
  go_wp2_with fail
  refine (nets_of code A0 c0 n _ HC.out hg0 HN.out).mono ?_
  rintro e w1 ⟨u, rfl, ru, b1⟩
  replace HC := Aside0.mk (Kd.C_below HC.out b1)
  replace HM := Aside0.mk (Kd.C_below HM.out b1)
  replace FB := Aside0.mk (below_more FB.out b1)
  have RU := Aside0.mk (ru)
  clear b1
  clear ru
  have N5_ := Aside0.mk (Bx.new w1 [.slice u.1.1 n.pieces.length u.1.2, .slice u.2.1 n.joints.length u.2.2] 35)
  replace HC := Aside0.mk (Kd.C_alloc HC.out (.cells #[.slice u.1.1 n.pieces.length u.1.2, .slice u.2.1 n.joints.length u.2.2] 35))
  replace HM := Aside0.mk (Kd.C_alloc HM.out (.cells #[.slice u.1.1 n.pieces.length u.1.2, .slice u.2.1 n.joints.length u.2.2] 35))
  replace FB := Aside0.mk (below_alloc FB.out (.cells #[.slice u.1.1 n.pieces.length u.1.2, .slice u.2.1 n.joints.length u.2.2] 35))
  replace RU := Aside0.mk (RU.out.below (below_alloc (Below.refl _ _) (.cells #[.slice u.1.1 n.pieces.length u.1.2, .slice u.2.1 n.joints.length u.2.2] 35)))
  have N5 := N5_
  have n0 := N5.out.c 0 _ rfl
  have n1 := N5.out.c 1 _ rfl
  go_wp2_with fail
  refine (aspot_any n u more A1 c1 _ RU.out HG.out HM.out hg1).mono ?_
  rintro e w2 ⟨rfl, b2⟩
  rw [← HS.out]
  simp only
  clear n0 n1
  replace HC := Aside0.mk (Kd.C_below HC.out b2)
  replace HM := Aside0.mk (Kd.C_below HM.out b2)
  replace FB := Aside0.mk (below_more FB.out b2)
  replace RU := Aside0.mk (RU.out.below b2)
  replace N5 := Aside0.mk (N5.out.below b2)
  clear b2
  have S6_ := Aside0.mk (Bx.new w2 [.int .i64 (pn : Int), .int .i64 sa, .int .i64 sw] 38)
  replace HC := Aside0.mk (Kd.C_alloc HC.out (.cells #[.int .i64 (pn : Int), .int .i64 sa, .int .i64 sw] 38))
  replace HM := Aside0.mk (Kd.C_alloc HM.out (.cells #[.int .i64 (pn : Int), .int .i64 sa, .int .i64 sw] 38))
  replace FB := Aside0.mk (below_alloc FB.out (.cells #[.int .i64 (pn : Int), .int .i64 sa, .int .i64 sw] 38))
  replace RU := Aside0.mk (RU.out.below (below_alloc (Below.refl _ _) (.cells #[.int .i64 (pn : Int), .int .i64 sa, .int .i64 sw] 38)))
  replace N5 := Aside0.mk (N5.out.alloc (.cells #[.int .i64 (pn : Int), .int .i64 sa, .int .i64 sw] 38))
  have S6 := S6_
  have n0 := N5.out.c 0 _ rfl
  have n1 := N5.out.c 1 _ rfl
  go_wp2_with fail
  refine (lies_any n u more A1 c1 _ RU.out hj120 HM.out hg1).mono ?_
  rintro e w3 ⟨v1, rfl, rv, b3⟩
  rw [← HLS.out] at rv
  obtain ⟨LA, lc, rfl, _, rl⟩ := Kd.R_reads rv
  clear n0 n1
  replace HC := Aside0.mk (Kd.C_below HC.out b3)
  replace HM := Aside0.mk (Kd.C_below HM.out b3)
  replace FB := Aside0.mk (below_more FB.out b3)
  replace RU := Aside0.mk (RU.out.below b3)
  replace N5 := Aside0.mk (N5.out.below b3)
  replace S6 := Aside0.mk (S6.out.below b3)
  have RL := Aside0.mk (rl)
  clear b3
  clear rv rl
  go_wp2_with fail
  refine (wWhole_any more A1 c1 3 _ _ HM.out hg1 rfl (by omega) hlm).mono ?_
  rintro e w3q ⟨rfl, rfl⟩
  rw [← HA.out]
  have n0 := N5.out.c 0 _ rfl
  have n1 := N5.out.c 1 _ rfl
  have t0 := S6.out.c 0 _ rfl
  have t1 := S6.out.c 1 _ rfl
  have t2 := S6.out.c 2 _ rfl
  go_wp2_with fail
  refine (implDrive_any n u (LA, lc) ls ⟨(pn : Int), sa, sw⟩ a _ RU.out RL.out HF.out).mono ?_
  rintro e w4 ⟨rfl, b4⟩
  rw [Hx.out]
  simp only [drvV]
  clear n0 n1 t0 t1 t2
  replace HC := Aside0.mk (Kd.C_below HC.out b4)
  replace HM := Aside0.mk (Kd.C_below HM.out b4)
  replace FB := Aside0.mk (below_more FB.out b4)
  replace RU := Aside0.mk (RU.out.below b4)
  replace N5 := Aside0.mk (N5.out.below b4)
  replace S6 := Aside0.mk (S6.out.below b4)
  replace RL := Aside0.mk (Kd.C_below RL.out b4)
  clear b4
  have X9_ := Aside0.mk (Bx.new w4 [.int .i64 xc, .int .i64 xf, .int .i64 xj, .int .i64 xp, .int .i64 xa, .int .i64 xw] 44)
  replace HC := Aside0.mk (Kd.C_alloc HC.out (.cells #[.int .i64 xc, .int .i64 xf, .int .i64 xj, .int .i64 xp, .int .i64 xa, .int .i64 xw] 44))
  replace HM := Aside0.mk (Kd.C_alloc HM.out (.cells #[.int .i64 xc, .int .i64 xf, .int .i64 xj, .int .i64 xp, .int .i64 xa, .int .i64 xw] 44))
  replace FB := Aside0.mk (below_alloc FB.out (.cells #[.int .i64 xc, .int .i64 xf, .int .i64 xj, .int .i64 xp, .int .i64 xa, .int .i64 xw] 44))
  replace RU := Aside0.mk (RU.out.below (below_alloc (Below.refl _ _) (.cells #[.int .i64 xc, .int .i64 xf, .int .i64 xj, .int .i64 xp, .int .i64 xa, .int .i64 xw] 44)))
  replace N5 := Aside0.mk (N5.out.alloc (.cells #[.int .i64 xc, .int .i64 xf, .int .i64 xj, .int .i64 xp, .int .i64 xa, .int .i64 xw] 44))
  replace S6 := Aside0.mk (S6.out.alloc (.cells #[.int .i64 xc, .int .i64 xf, .int .i64 xj, .int .i64 xp, .int .i64 xa, .int .i64 xw] 44))
  replace RL := Aside0.mk (Kd.C_alloc RL.out (.cells #[.int .i64 xc, .int .i64 xf, .int .i64 xj, .int .i64 xp, .int .i64 xa, .int .i64 xw] 44))
  have X9 := X9_
  have n0 := N5.out.c 0 _ rfl
  have n1 := N5.out.c 1 _ rfl
  have t0 := S6.out.c 0 _ rfl
  have t1 := S6.out.c 1 _ rfl
  have t2 := S6.out.c 2 _ rfl
  go_wp2_with fail
  refine (implAhead_any n u (LA, lc) ls ⟨(pn : Int), sa, sw⟩ a _ RU.out RL.out HF.out).mono ?_
  rintro e w5 ⟨v1, rfl, rv, b5⟩
  rw [HPA.out] at rv
  obtain ⟨PAa, pac, rfl⟩ := Kd.R_slice rv
  have hpac := (Kd.R_reads' rv).2.1
  clear n0 n1 t0 t1 t2
  replace HC := Aside0.mk (Kd.C_below HC.out b5)
  replace HM := Aside0.mk (Kd.C_below HM.out b5)
  replace FB := Aside0.mk (below_more FB.out b5)
  replace RU := Aside0.mk (RU.out.below b5)
  replace N5 := Aside0.mk (N5.out.below b5)
  replace S6 := Aside0.mk (S6.out.below b5)
  replace RL := Aside0.mk (Kd.C_below RL.out b5)
  replace X9 := Aside0.mk (X9.out.below b5)
  have RP := Aside0.mk (rv)
  clear b5
  clear rv
  have n0 := N5.out.c 0 _ rfl
  have n1 := N5.out.c 1 _ rfl
  have t0 := S6.out.c 0 _ rfl
  have t1 := S6.out.c 1 _ rfl
  have t2 := S6.out.c 2 _ rfl
  go_wp2_with fail
  refine (implBehind_any n u (LA, lc) ls ⟨(pn : Int), sa, sw⟩ a _ RU.out RL.out HF.out HWAY.out).mono ?_
  rintro e w6 ⟨v1, rfl, rv, b6⟩
  rw [HPB.out] at rv
  obtain ⟨PBa, pbc, rfl⟩ := Kd.R_slice rv
  clear n0 n1 t0 t1 t2
  replace HC := Aside0.mk (Kd.C_below HC.out b6)
  replace HM := Aside0.mk (Kd.C_below HM.out b6)
  replace FB := Aside0.mk (below_more FB.out b6)
  replace RU := Aside0.mk (RU.out.below b6)
  replace N5 := Aside0.mk (N5.out.below b6)
  replace S6 := Aside0.mk (S6.out.below b6)
  replace RL := Aside0.mk (Kd.C_below RL.out b6)
  replace X9 := Aside0.mk (X9.out.below b6)
  replace RP := Aside0.mk (Kd.R_below RP.out b6)
  have RQ := Aside0.mk (rv)
  clear b6
  clear rv
  obtain ⟨W9, hW9⟩ : ∃ W9, W9 = w6 := ⟨_, rfl⟩
  subst hW9
  have hfb : (xf != xf) = false := by simp
  go_wp2_with fail
  have HSr : Aside0 (∀ W, Below W9.heap.size W9 W → (Below W9.heap.size W9 W ∧ W.cell? ⟨w4.heap.size, 0, none⟩ = some (.int .i64 xc) ∧ W.cell? ⟨w4.heap.size, 1, none⟩ = some (.int .i64 xf) ∧ W.cell? ⟨w4.heap.size, 2, none⟩ = some (.int .i64 xj) ∧ W.cell? ⟨w4.heap.size, 3, none⟩ = some (.int .i64 xp) ∧ W.cell? ⟨w4.heap.size, 4, none⟩ = some (.int .i64 xa) ∧ W.cell? ⟨w4.heap.size, 5, none⟩ = some (.int .i64 xw) ∧ W.cell? ⟨w1.heap.size, 0, none⟩ = some (.slice u.1.1 n.pieces.length u.1.2) ∧ W.cell? ⟨w1.heap.size, 1, none⟩ = some (.slice u.2.1 n.joints.length u.2.2) ∧ W.cell? ⟨w2.heap.size, 0, none⟩ = some (.int .i64 (pn : Int)) ∧ W.cell? ⟨w2.heap.size, 1, none⟩ = some (.int .i64 sa) ∧ W.cell? ⟨w2.heap.size, 2, none⟩ = some (.int .i64 sw))) := ⟨fun W hb => ⟨hb, (X9.out.below hb).c 0 _ rfl, (X9.out.below hb).c 1 _ rfl, (X9.out.below hb).c 2 _ rfl, (X9.out.below hb).c 3 _ rfl, (X9.out.below hb).c 4 _ rfl, (X9.out.below hb).c 5 _ rfl, (N5.out.below hb).c 0 _ rfl, (N5.out.below hb).c 1 _ rfl, (S6.out.below hb).c 0 _ rfl, (S6.out.below hb).c 1 _ rfl, (S6.out.below hb).c 2 _ rfl⟩⟩
  go_region_held3 (fun W => Below W9.heap.size W9 W ∧ W.cell? ⟨w4.heap.size, 0, none⟩ = some (.int .i64 xc) ∧ W.cell? ⟨w4.heap.size, 1, none⟩ = some (.int .i64 xf) ∧ W.cell? ⟨w4.heap.size, 2, none⟩ = some (.int .i64 xj) ∧ W.cell? ⟨w4.heap.size, 3, none⟩ = some (.int .i64 xp) ∧ W.cell? ⟨w4.heap.size, 4, none⟩ = some (.int .i64 xa) ∧ W.cell? ⟨w4.heap.size, 5, none⟩ = some (.int .i64 xw) ∧ W.cell? ⟨w1.heap.size, 0, none⟩ = some (.slice u.1.1 n.pieces.length u.1.2) ∧ W.cell? ⟨w1.heap.size, 1, none⟩ = some (.slice u.2.1 n.joints.length u.2.2) ∧ W.cell? ⟨w2.heap.size, 0, none⟩ = some (.int .i64 (pn : Int)) ∧ W.cell? ⟨w2.heap.size, 1, none⟩ = some (.int .i64 sa) ∧ W.cell? ⟨w2.heap.size, 2, none⟩ = some (.int .i64 sw))
    (first | assumption | (with_reducible exact HSr.out _ (by assumption)) | (with_reducible exact HSr.out _ (Below.drew (Below.refl _ _))))
    (first
      | (go_at_call 70; go_split_ands; (with_reducible refine Calls.mono (specAhead_any n u (LA, lc) ls ⟨(pn : Int), sa, sw⟩ a _ (RU.out.below (by assumption)) (Kd.C_below RL.out (by assumption)) HF.out) ?_); rintro e rw0 ⟨va, rfl, rva, b3⟩; rw [HPA.out] at rva; obtain ⟨BA, bac, rfl, _, rla⟩ := Kd.R_reads rva; have RA2 := Aside0.mk rla; have rq0 : Below W9.heap.size W9 rw0 := below_more (by assumption) b3; have rQ0 := Aside0.mk rq0; clear b3)
      | (go_at_call 69; go_split_ands; (with_reducible refine Calls.mono (wParts_same PA PAa pac BA bac _ (Kd.R_reads' (Kd.R_below RP.out (by assumption))).2.2 RA2.out) ?_); rintro e rw1 ⟨rfl, b3⟩; have rq1 : Below W9.heap.size W9 rw1 := below_more (by assumption) b3; have rQ1 := Aside0.mk rq1; clear b3)
      | (go_at_call 53; go_split_ands; (with_reducible refine Calls.mono (specTurn_any n u ⟨(pn : Int), sa, sw⟩ _ (RU.out.below (by assumption)) HF.out) ?_); rintro e rw2 ⟨rfl, b3⟩; rw [HT.out]; simp only; have rq2 : Below W9.heap.size W9 rw2 := below_more (by assumption) b3; have rQ2 := Aside0.mk rq2; clear b3)
      | (go_at_call 70; go_split_ands; (with_reducible refine Calls.mono (specAhead_any n u (LA, lc) ls ⟨tp, ta, tw⟩ a _ (RU.out.below (by assumption)) (Kd.C_below RL.out (by assumption)) HF.out) ?_); rintro e rw3 ⟨va, rfl, rva, b3⟩; rw [HBT.out] at rva; obtain ⟨BB, bbc, rfl, _, rla⟩ := Kd.R_reads rva; have RB2 := Aside0.mk rla; have rq3 : Below W9.heap.size W9 rw3 := below_more (by assumption) b3; have rQ3 := Aside0.mk rq3; clear b3)
      | (go_at_call 69; go_split_ands; (with_reducible refine Calls.mono (wParts_same PB PBa pbc BB bbc _ (Kd.R_reads' (Kd.R_below RQ.out (by assumption))).2.2 RB2.out) ?_); rintro e rw4 ⟨rfl, b3⟩; have rq4 : Below W9.heap.size W9 rw4 := below_more (by assumption) b3; have rQ4 := Aside0.mk rq4; clear b3)
      | (go_at_call 29; go_split_ands; (with_reducible refine Calls.mono (implPartsLen_any PAa pac PA _ (Kd.R_reads' (Kd.R_below RP.out (by assumption))).2.2) ?_); rintro e rw5 ⟨rfl, b3⟩; rw [HLEN.out]; have rq5 : Below W9.heap.size W9 rw5 := below_more (by assumption) b3; have rQ5 := Aside0.mk rq5; clear b3))
  replace HC := Aside0.mk (Kd.C_below HC.out rQ5.out)
  replace HM := Aside0.mk (Kd.C_below HM.out rQ5.out)
  replace FB := Aside0.mk (below_more FB.out rQ5.out)
  replace RU := Aside0.mk (RU.out.below rQ5.out)
  replace N5 := Aside0.mk (N5.out.below rQ5.out)
  replace S6 := Aside0.mk (S6.out.below rQ5.out)
  replace RL := Aside0.mk (Kd.C_below RL.out rQ5.out)
  replace X9 := Aside0.mk (X9.out.below rQ5.out)
  replace RP := Aside0.mk (Kd.R_below RP.out rQ5.out)
  replace RQ := Aside0.mk (Kd.R_below RQ.out rQ5.out)
  have hpal := hp3
  go_wp2_with fail
  obtain ⟨W10, hW10⟩ : ∃ W10, W10 = rw5 := ⟨_, rfl⟩
  subst hW10
  have hRm := (Kd.R_reads' RP.out).2.2.2.1
  have hQm := (Kd.R_reads' RQ.out).2.2.2.1
  go_loopw [78] (fun v78 wr => ∃ i : Nat, v78 = .int .i64 i ∧ i ≤ PA.length ∧ Aside0 (Below W10.heap.size W10 wr)) (fun v78 _ => PA.length - (intOf v78).toNat)
  case atStart => exact ⟨0, rfl, Nat.zero_le _, ⟨Below.refl _ _⟩⟩
  case round =>
    obtain ⟨i, rfl, hi, HBr⟩ := hrel
    by_cases hlt : i < PA.length
    · have hflt := HLT.out _ (getD_mem PA i hlt)
      obtain ⟨ad1, e1, y0, y1, y2⟩ := at_Part (Kd.R_reads' (Kd.R_below RP.out HBr.out)).2.2 i hlt
      subst e1
      obtain ⟨p, hp⟩ : ∃ p, p = PA.getD i default := ⟨_, rfl⟩
      rw [← hp] at y0 y1 y2 hflt
      have hnge : ¬ (p.upto ≤ p.frm) := by omega
      have B2 := Aside0.mk (below_alloc HBr.out (.cells #[.int .i64 p.piece, .int .i64 p.frm, .int .i64 p.upto] 89))
      clear hp
      go_wp2
      go_roundw
      case rel => exact ⟨i + 1, by go_num, by omega, B2⟩
      case measure => simp [intOf]; omega
    · skip
      replace HC := Aside0.mk (Kd.C_below HC.out HBr.out)
      replace HM := Aside0.mk (Kd.C_below HM.out HBr.out)
      replace FB := Aside0.mk (below_more FB.out HBr.out)
      replace RU := Aside0.mk (RU.out.below HBr.out)
      replace N5 := Aside0.mk (N5.out.below HBr.out)
      replace S6 := Aside0.mk (S6.out.below HBr.out)
      replace RL := Aside0.mk (Kd.C_below RL.out HBr.out)
      replace X9 := Aside0.mk (X9.out.below HBr.out)
      replace RP := Aside0.mk (Kd.R_below RP.out HBr.out)
      replace RQ := Aside0.mk (Kd.R_below RQ.out HBr.out)
      obtain ⟨W11, hW11⟩ : ∃ W11, W11 = wr := ⟨_, rfl⟩
      subst hW11
      clear HBr
      go_upto_if 90 with (fail)
      go_cut [10] (fun s10 W => s10 = .slice PAa PA.length pac ∧ Aside0 (Below W11.heap.size W11 W))
      case first =>
        by_cases hne : 0 < PA.length
        · obtain ⟨m, hm⟩ : ∃ m, PA.length = m + 1 := ⟨PA.length - 1, by omega⟩
          have hml : m < PA.length := by omega
          have hne2 : (0 : Int) < (PA.length : Int) := by omega
          have hidx : IntKind.i64.wrap ((PA.length : Int) - 1) = (m : Int) := by rw [hm, wrap64 (by omega) (by omega)]; omega
          obtain ⟨ad1, e1, y0, y1, y2⟩ := at_Part (Kd.R_reads' RP.out).2.2 m hml
          subst e1
          have hpl := HPL.out hne
          rw [hm, Nat.add_sub_cancel] at hpl
          obtain ⟨p, hp⟩ : ∃ p, p = PA.getD m default := ⟨_, rfl⟩
          rw [← hp] at y0 y1 y2 hpl
          clear hp hm
          have x0 := X9.out.c 0 _ rfl
          have x1 := X9.out.c 1 _ rfl
          have x2 := X9.out.c 2 _ rfl
          have x3 := X9.out.c 3 _ rfl
          have x4 := X9.out.c 4 _ rfl
          have x5 := X9.out.c 5 _ rfl
          have hxlt := X9.out.lt
          by_cases hc : xc = 0
          · obtain ⟨q1, q2⟩ := hpl hc
            subst xc
            have hb1 : (p.piece != xp) = false := by simpa using q1
            by_cases hf : p.frm = xa
            · have hb2 : (p.frm != xa) = false := by simpa using hf
              clear hpl q1 q2 hf
              go_wp2_with fail
              go_meet
              case rel => exact ⟨rfl, ⟨below_alloc (Below.refl _ _) _⟩⟩
            · have hb2 : (p.frm != xa) = true := by simpa using hf
              have hb3 : (p.upto != xa) = false := by simpa using q2.resolve_left hf
              clear hpl q1 q2 hf
              go_wp2_with fail
              go_meet
              case rel => exact ⟨rfl, ⟨below_alloc (Below.refl _ _) _⟩⟩
          · have hcb : (xc == 0) = false := by simpa using hc
            clear hpl
            by_cases q1 : p.piece = xp
            · have hb1 : (p.piece != xp) = false := by simpa using q1
              clear q1 hc
              go_wp2_with fail
              go_meet
              case rel => exact ⟨rfl, ⟨below_alloc (Below.refl _ _) _⟩⟩
            · have hb1 : (p.piece != xp) = true := by simpa using q1
              clear q1 hc
              go_wp2_with fail
              go_meet
              case rel => exact ⟨rfl, ⟨below_alloc (Below.refl _ _) _⟩⟩
        · have hne2 : ¬ (0 : Int) < (PA.length : Int) := by omega
          go_wp2_with fail
          go_meet
          case rel => exact ⟨rfl, ⟨Below.refl _ _⟩⟩
      case rest =>
      obtain ⟨rfl, B12⟩ := hcut
      replace HC := Aside0.mk (Kd.C_below HC.out B12.out)
      replace HM := Aside0.mk (Kd.C_below HM.out B12.out)
      replace FB := Aside0.mk (below_more FB.out B12.out)
      replace RU := Aside0.mk (RU.out.below B12.out)
      replace N5 := Aside0.mk (N5.out.below B12.out)
      replace S6 := Aside0.mk (S6.out.below B12.out)
      replace RL := Aside0.mk (Kd.C_below RL.out B12.out)
      replace X9 := Aside0.mk (X9.out.below B12.out)
      replace RP := Aside0.mk (Kd.R_below RP.out B12.out)
      replace RQ := Aside0.mk (Kd.R_below RQ.out B12.out)
      have t0 := S6.out.c 0 _ rfl
      have t1 := S6.out.c 1 _ rfl
      have t2 := S6.out.c 2 _ rfl
      clear B12
      go_upto_if 163 with (fail)
      clear t0 t1 t2
      have CQ := Aside0.mk (C_part1 wc ⟨(pn : Int), sa, sa⟩)
      replace HC := Aside0.mk (Kd.C_alloc HC.out (.cells #[.int .i64 (pn : Int), .int .i64 sa, .int .i64 sa] 89))
      replace HM := Aside0.mk (Kd.C_alloc HM.out (.cells #[.int .i64 (pn : Int), .int .i64 sa, .int .i64 sa] 89))
      replace FB := Aside0.mk (below_alloc FB.out (.cells #[.int .i64 (pn : Int), .int .i64 sa, .int .i64 sa] 89))
      replace RU := Aside0.mk (RU.out.below (below_alloc (Below.refl _ _) (.cells #[.int .i64 (pn : Int), .int .i64 sa, .int .i64 sa] 89)))
      replace N5 := Aside0.mk (N5.out.alloc (.cells #[.int .i64 (pn : Int), .int .i64 sa, .int .i64 sa] 89))
      replace S6 := Aside0.mk (S6.out.alloc (.cells #[.int .i64 (pn : Int), .int .i64 sa, .int .i64 sa] 89))
      replace RL := Aside0.mk (Kd.C_alloc RL.out (.cells #[.int .i64 (pn : Int), .int .i64 sa, .int .i64 sa] 89))
      replace X9 := Aside0.mk (X9.out.alloc (.cells #[.int .i64 (pn : Int), .int .i64 sa, .int .i64 sa] 89))
      replace RP := Aside0.mk (Kd.R_alloc RP.out (.cells #[.int .i64 (pn : Int), .int .i64 sa, .int .i64 sa] 89))
      replace RQ := Aside0.mk (Kd.R_alloc RQ.out (.cells #[.int .i64 (pn : Int), .int .i64 sa, .int .i64 sa] 89))
      simp only at CQ
      obtain ⟨W13, hW13⟩ : ∃ W13, W13 = wc.alloc (.cells #[.int .i64 (pn : Int), .int .i64 sa, .int .i64 sa] 89) := ⟨_, rfl⟩
      obtain ⟨g, hg⟩ : ∃ g, g = wc.heap.size := ⟨_, rfl⟩
      rw [← hW13, ← hg] at CQ
      rw [← hW13] at HC
      rw [← hW13] at HM
      rw [← hW13] at FB
      rw [← hW13] at RU
      rw [← hW13] at N5
      rw [← hW13] at S6
      rw [← hW13] at RL
      rw [← hW13] at X9
      rw [← hW13] at RP
      rw [← hW13] at RQ
      rw [← hW13, ← hg]
      clear hW13 hg
      obtain ⟨ad0, ea0, _, y1, _, _⟩ := at_Piece RU.out.1.1 pn hpn
      rw [← HL.out] at y1
      have Y1 := Aside0.mk y1
      have EA0 := Aside0.mk ea0
      clear y1 ea0
      go_cut [163] (fun s163 W => s163 = .bool false ∧ Aside0 (Below W13.heap.size W13 W))
      case first =>
        have y1 := Y1.out
        have ea0 := EA0.out
        have n0 := N5.out.c 0 _ rfl; have n1 := N5.out.c 1 _ rfl; have t0 := S6.out.c 0 _ rfl; have t1 := S6.out.c 1 _ rfl; have t2 := S6.out.c 2 _ rfl
        by_cases hne : 0 < PA.length
        · have hne2 : (0 : Int) < (PA.length : Int) := by omega
          by_cases h1 : (0 : Int) < sa
          · by_cases h2 : sa < L
            · have hpt := HPT.out hne h1 h2
              have hRt := Kd.R_take (m := 1) RP.out (by omega)
              have htl : (PA.take 1).length = 1 := by simp; omega
              have hCt := Aside0.mk (Kd.R_reads' hRt).2.2
              have hk : ∀ W, Below W13.heap.size W13 W → Calls Try.prog 32 #[.slice PAa 1 pac, .slice (some ⟨g, 0, none⟩) 1 1] W fun e w' => e = .returned (.bool true) ∧ Below W.heap.size W w' := fun W hb => by
                have := implTouch_any PAa pac (PA.take 1) (some ⟨g, 0, none⟩) 1 [⟨(pn : Int), sa, sa⟩] W (Kd.C_below hCt.out hb) (Kd.C_below CQ.out hb)
                rw [htl, hpt] at this
                exact this
              have HK := Aside0.mk hk
              clear hpt hRt htl hk
              have hpc1 : (1 : Int) ≤ (pac : Int) := by omega
              have hpc2 : 1 ≤ pac := by omega
              have HSt : Aside0 (∀ W, Below W13.heap.size W13 W → (Below W13.heap.size W13 W ∧ W.cell? ⟨w1.heap.size, 0, none⟩ = some (.slice u.1.1 n.pieces.length u.1.2) ∧ W.cell? ⟨w2.heap.size, 0, none⟩ = some (.int .i64 (pn : Int)) ∧ W.cell? ⟨w2.heap.size, 1, none⟩ = some (.int .i64 sa) ∧ W.cell? ⟨(ad0.add (pn * 4)).block, (ad0.add (pn * 4)).off + 1, none⟩ = some (.int .i64 L))) := ⟨fun W hb => ⟨hb, (N5.out.below hb).c 0 _ rfl, (S6.out.below hb).c 0 _ rfl, (S6.out.below hb).c 1 _ rfl, pw_cell_below hb Y1.out⟩⟩
              go_region_held3 (fun W => Below W13.heap.size W13 W ∧ W.cell? ⟨w1.heap.size, 0, none⟩ = some (.slice u.1.1 n.pieces.length u.1.2) ∧ W.cell? ⟨w2.heap.size, 0, none⟩ = some (.int .i64 (pn : Int)) ∧ W.cell? ⟨w2.heap.size, 1, none⟩ = some (.int .i64 sa) ∧ W.cell? ⟨(ad0.add (pn * 4)).block, (ad0.add (pn * 4)).off + 1, none⟩ = some (.int .i64 L))
                (first | assumption | (with_reducible exact HSt.out _ (by assumption)) | (with_reducible exact HSt.out _ (Below.drew (Below.refl _ _))))
                (first
                  | (go_at_call 32; go_split_ands; (with_reducible refine Calls.mono (HK.out _ (by assumption)) ?_); rintro e tw0 ⟨rfl, b3⟩; have tq0 : Below W13.heap.size W13 tw0 := below_more (by assumption) b3; have tQ0 := Aside0.mk tq0; clear b3))
              all_goals
                try go_wp2_with fail
                go_meet
                case rel => exact ⟨rfl, tQ0⟩
            · go_quiet (fail)
              all_goals
                try go_wp2_with fail
                go_meet
                case rel => exact ⟨rfl, ⟨below_drewN' (Below.refl _ _) _⟩⟩
          · go_quiet (fail)
            all_goals
              try go_wp2_with fail
              go_meet
              case rel => exact ⟨rfl, ⟨below_drewN' (Below.refl _ _) _⟩⟩
        · have hne2 : ¬ (0 : Int) < (PA.length : Int) := by omega
          go_quiet (fail)
          all_goals
            try go_wp2_with fail
            go_meet
            case rel => exact ⟨rfl, ⟨below_drewN' (Below.refl _ _) _⟩⟩
      case rest =>
      obtain ⟨rfl, B14⟩ := hcut
      replace HC := Aside0.mk (Kd.C_below HC.out B14.out)
      replace HM := Aside0.mk (Kd.C_below HM.out B14.out)
      replace FB := Aside0.mk (below_more FB.out B14.out)
      replace RU := Aside0.mk (RU.out.below B14.out)
      replace N5 := Aside0.mk (N5.out.below B14.out)
      replace S6 := Aside0.mk (S6.out.below B14.out)
      replace RL := Aside0.mk (Kd.C_below RL.out B14.out)
      replace X9 := Aside0.mk (X9.out.below B14.out)
      replace RP := Aside0.mk (Kd.R_below RP.out B14.out)
      replace RQ := Aside0.mk (Kd.R_below RQ.out B14.out)
      replace CQ := Aside0.mk (Kd.C_below CQ.out B14.out)
      clear B14
      obtain ⟨W14, hW14⟩ : ∃ W14, W14 = wc := ⟨_, rfl⟩
      subst hW14
      have hbb : (tb == tb) = true := by simp
      go_wp2_with fail
      refine (implTouch_any PAa pac PA PBa pbc PB _ (Kd.R_reads' RP.out).2.2 (Kd.R_reads' RQ.out).2.2).mono ?_
      rintro e w7 ⟨rfl, b7⟩
      rw [HTB.out]
      replace HC := Aside0.mk (Kd.C_below HC.out b7)
      replace HM := Aside0.mk (Kd.C_below HM.out b7)
      replace FB := Aside0.mk (below_more FB.out b7)
      replace RU := Aside0.mk (RU.out.below b7)
      replace N5 := Aside0.mk (N5.out.below b7)
      replace S6 := Aside0.mk (S6.out.below b7)
      replace RL := Aside0.mk (Kd.C_below RL.out b7)
      replace X9 := Aside0.mk (X9.out.below b7)
      replace RP := Aside0.mk (Kd.R_below RP.out b7)
      replace RQ := Aside0.mk (Kd.R_below RQ.out b7)
      replace CQ := Aside0.mk (Kd.C_below CQ.out b7)
      clear b7
      go_wp2_with fail
      refine (implTouch_any PBa pbc PB PAa pac PA _ (Kd.R_reads' RQ.out).2.2 (Kd.R_reads' RP.out).2.2).mono ?_
      rintro e w8 ⟨rfl, b8⟩
      rw [HTB2.out]
      replace HC := Aside0.mk (Kd.C_below HC.out b8)
      replace HM := Aside0.mk (Kd.C_below HM.out b8)
      replace FB := Aside0.mk (below_more FB.out b8)
      replace RU := Aside0.mk (RU.out.below b8)
      replace N5 := Aside0.mk (N5.out.below b8)
      replace S6 := Aside0.mk (S6.out.below b8)
      replace RL := Aside0.mk (Kd.C_below RL.out b8)
      replace X9 := Aside0.mk (X9.out.below b8)
      replace RP := Aside0.mk (Kd.R_below RP.out b8)
      replace RQ := Aside0.mk (Kd.R_below RQ.out b8)
      replace CQ := Aside0.mk (Kd.C_below CQ.out b8)
      clear b8
      go_wp2_with fail
      refine (implTouch_any PAa pac PA PBa pbc PB _ (Kd.R_reads' RP.out).2.2 (Kd.R_reads' RQ.out).2.2).mono ?_
      rintro e w9 ⟨rfl, b9⟩
      rw [HTB.out]
      replace HC := Aside0.mk (Kd.C_below HC.out b9)
      replace HM := Aside0.mk (Kd.C_below HM.out b9)
      replace FB := Aside0.mk (below_more FB.out b9)
      replace RU := Aside0.mk (RU.out.below b9)
      replace N5 := Aside0.mk (N5.out.below b9)
      replace S6 := Aside0.mk (S6.out.below b9)
      replace RL := Aside0.mk (Kd.C_below RL.out b9)
      replace X9 := Aside0.mk (X9.out.below b9)
      replace RP := Aside0.mk (Kd.R_below RP.out b9)
      replace RQ := Aside0.mk (Kd.R_below RQ.out b9)
      replace CQ := Aside0.mk (Kd.C_below CQ.out b9)
      clear b9
      go_wp2_with fail
      refine (specTouch_any PAa pac PA PBa pbc PB _ (Kd.R_reads' RP.out).2.2 (Kd.R_reads' RQ.out).2.2).mono ?_
      rintro e w10 ⟨rfl, b10⟩
      rw [HTB.out]
      replace HC := Aside0.mk (Kd.C_below HC.out b10)
      replace HM := Aside0.mk (Kd.C_below HM.out b10)
      replace FB := Aside0.mk (below_more FB.out b10)
      replace RU := Aside0.mk (RU.out.below b10)
      replace N5 := Aside0.mk (N5.out.below b10)
      replace S6 := Aside0.mk (S6.out.below b10)
      replace RL := Aside0.mk (Kd.C_below RL.out b10)
      replace X9 := Aside0.mk (X9.out.below b10)
      replace RP := Aside0.mk (Kd.R_below RP.out b10)
      replace RQ := Aside0.mk (Kd.R_below RQ.out b10)
      replace CQ := Aside0.mk (Kd.C_below CQ.out b10)
      clear b10
      go_wp2_with fail
      go_ret
      exact ⟨by simp, FB.out⟩
end Go.Proofs.Ytckcffjnffcjcaa
