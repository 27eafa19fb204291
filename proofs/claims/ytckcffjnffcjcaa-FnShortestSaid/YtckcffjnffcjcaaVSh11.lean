/- Texts of this work, of each what the claim leans on: Shrt1, Shrt2. No conditions. -/
import Derived.Test.YtckcffjnffcjcaaVSh10
set_option linter.unusedVariables false
set_option linter.unusedSimpArgs false
namespace Go.Proofs.Ytckcffjnffcjcaa
open Go.RowKit Go.Proofs.YtckcffjnffcjcaaW.PrintWords
theorem R_stp1 (W : World) (x : StepT) {base g : Nat} (hg : g = W.heap.size) (hb : base ≤ W.heap.size) : kStep.R 85 (W.alloc (.cells #[.int .i64 x.piece, .int .i64 x.way] 85)) base (fun _ => True) (.slice (some ⟨g, 0, none⟩) 1 1) [x] := by
  subst hg
  exact R_lits kStep W 85 (xs := [x]) (inner := [.int .i64 x.piece, .int .i64 x.way]) (by
    have := (Reps.none (fun (x : StepT) c => ∀ w base ok, kStep.M w base ok x c) 2).snoc (p := x) (c := [.int .i64 x.piece, .int .i64 x.way]) (fun w base ok => kStep_mkM w base ok x) rfl
    exact this) (by simp) hb
theorem box3T (w : World) (a b c : List Value) (s t r : TypeId) : ∃ W0, W0 = ((w.alloc (.cells a.toArray s)).alloc (.cells b.toArray t)).alloc (.cells c.toArray r) ∧ Bx W0 w.heap.size a ∧ Bx W0 (w.heap.size + 1) b ∧ Bx W0 (w.heap.size + 1 + 1) c ∧ Below w.heap.size w W0 := by
  obtain ⟨W0, h0, hN, hS, fb, hz⟩ := box2 w a b s t
  refine ⟨_, rfl, ?_, ?_, ?_, ?_⟩
  · rw [← h0]; exact hN.alloc _
  · rw [← h0]; exact hS.alloc _
  · rw [← h0]; exact Bx.new' _ _ _ hz.symm
  · rw [← h0]; exact below_alloc fb _
def lenSl : Value → Nat | .slice _ n _ => n | _ => 0
def PathR (w w' : World) (e : Ending) (p : PathT) : Prop := ∃ sv lv, e = .returned (.agg #[.bool p.ok, .int .i64 p.far, sv, lv]) ∧ Kd.R kStep 85 w' w.heap.size (fun _ => True) sv p.steps ∧ Kd.R kLie 111 w' w.heap.size (fun _ => True) lv p.lies ∧ Below w.heap.size w w'
set_option maxRecDepth 100000 in
set_option maxHeartbeats 32000000 in
theorem shortest_any (n : NetT) (u : (Option Addr × Nat) × (Option Addr × Nat)) (a b : SpotT) (o : Bool) (w : World) (hr : RdNet 67 w u n) (hg : Good n) (ha : spotB n a = true) (hb : spotB n b = true) :
    Calls Try.prog 142 #[.agg #[.slice u.1.1 n.pieces.length u.1.2, .slice u.2.1 n.joints.length u.2.2], .agg #[.int .i64 a.piece, .int .i64 a.at_, .int .i64 a.way], .agg #[.int .i64 b.piece, .int .i64 b.at_, .int .i64 b.way], .bool o] w
      fun e w' => PathR w w' e (shortT n a b o) := by
  obtain ⟨⟨A0, c0⟩, ⟨A1, c1⟩⟩ := u
  obtain ⟨ap, aa, aw⟩ := a
  obtain ⟨bp, ba, bw⟩ := b
  have HR := Aside0.mk hr
  have HG := Aside0.mk hg
  have HA := Aside0.mk ha
  have HBB := Aside0.mk hb
  have hxa := spotB_iff.1 ha
  have hxb := spotB_iff.1 hb
  have hla := hg.len hxa.1 hxa.2.1
  have hlb := hg.len hxb.1 hxb.2.1
  simp only at hxa hxb hla hlb
  have HXA := Aside0.mk hxa; have HXB := Aside0.mk hxb; have HLA := Aside0.mk hla; have HLB := Aside0.mk hlb
  obtain ⟨W0, hW0, hN, hS, hT, fb0⟩ := box3T w [.slice A0 n.pieces.length c0, .slice A1 n.joints.length c1] [.int .i64 ap, .int .i64 aa, .int .i64 aw] [.int .i64 bp, .int .i64 ba, .int .i64 bw] 35 38 38
  have hz0 : W0.heap.size = w.heap.size + 1 + 1 + 1 := by rw [hW0]; simp
  obtain ⟨W1, hW1⟩ : ∃ W1, W1 = W0.alloc (.cells #[.bool false, .int .i64 0, .slice none 0 0, .slice none 0 0] 108) := ⟨_, rfl⟩
  have FB := Aside0.mk (show Below w.heap.size w W1 by rw [hW1]; exact below_alloc fb0 _)
  have HN : Aside0 (Bx W1 w.heap.size [.slice A0 n.pieces.length c0, .slice A1 n.joints.length c1]) := ⟨by rw [hW1]; exact hN.alloc _⟩
  have HS : Aside0 (Bx W1 (w.heap.size + 1) [.int .i64 ap, .int .i64 aa, .int .i64 aw]) := ⟨by rw [hW1]; exact hS.alloc _⟩
  have HT : Aside0 (Bx W1 (w.heap.size + 1 + 1) [.int .i64 bp, .int .i64 ba, .int .i64 bw]) := ⟨by rw [hW1]; exact hT.alloc _⟩
  have HP : Aside0 (Bx W1 (w.heap.size + 1 + 1 + 1) [.bool false, .int .i64 0, .slice none 0 0, .slice none 0 0]) := ⟨by rw [hW1, ← hz0]; exact Bx.new W0 _ 108⟩
  have HW : Aside0 (W1 = (((w.alloc (.cells #[.slice A0 n.pieces.length c0, .slice A1 n.joints.length c1] 35)).alloc (.cells #[.int .i64 ap, .int .i64 aa, .int .i64 aw] 38)).alloc (.cells #[.int .i64 bp, .int .i64 ba, .int .i64 bw] 38)).alloc (.cells #[.bool false, .int .i64 0, .slice none 0 0, .slice none 0 0] 108)) := ⟨by rw [hW1, hW0]⟩
  clear hr hg ha hb hxa hxb hla hlb hW0 hN hS hT fb0 hz0 hW1
  have s0 := HS.out.c 0 _ rfl; have s1 := HS.out.c 1 _ rfl; have s2 := HS.out.c 2 _ rfl
  have t0 := HT.out.c 0 _ rfl; have t1 := HT.out.c 1 _ rfl; have t2 := HT.out.c 2 _ rfl
  go_enter Try.func142, Try.ntmps142
  go_upto_region 1 with (fail)
  rw [← HW.out]
  obtain ⟨d, hd⟩ : ∃ d, d = (!o && directB ⟨ap, aa, aw⟩ ⟨bp, ba, bw⟩) := ⟨_, rfl⟩
  have HD := Aside0.mk hd
  go_cut [51] (fun s51 W => s51 = .bool d ∧ Aside0 (W = W1))
  case first =>
    cases o with
    | true =>
      have hd2 : d = false := by rw [hd]; rfl
      subst hd2
      clear hd
      go_wp2_with fail
      go_meet
      case rel => exact ⟨rfl, ⟨by first | trivial | rfl⟩⟩
    | false =>
      by_cases h1 : ap = bp
      · have e1 : (ap == bp) = true := by simpa using h1
        by_cases h2 : aw = bw
        · have e2 : (aw == bw) = true := by simpa using h2
          obtain ⟨mv, hmv⟩ : ∃ m, m = (ba - aa) * aw := ⟨_, rfl⟩
          have hla := HLA.out
          have hlb := HLB.out
          have hxa := HXA.out
          have hxb := HXB.out
          have hw1 : IntKind.i64.wrap (ba - aa) = ba - aa := wrap64 (by omega) (by omega)
          have hw2 : IntKind.i64.wrap ((ba - aa) * aw) = mv := by
            rw [← hmv]
            rcases hxa.2.2.1 with h | h <;> (rw [h] at hmv; exact wrap64 (by omega) (by omega))
          by_cases h3 : 0 ≤ mv
          · have hd2 : d = true := by rw [hd]; unfold directB; simp only [Bool.not_false, Bool.true_and, decide_eq_true_eq]; exact ⟨h1, h2, by rw [← hmv]; exact h3⟩
            subst hd2
            clear hd h1 h2 hmv hla hlb hxa hxb
            go_wp2_with fail
            go_meet
            case rel => exact ⟨rfl, ⟨by first | trivial | rfl⟩⟩
          · have hd2 : d = false := by rw [hd]; unfold directB; simp only [Bool.not_false, Bool.true_and, decide_eq_false_iff_not]; rintro ⟨_, _, h⟩; rw [← hmv] at h; exact h3 h
            subst hd2
            clear hd h1 h2 hmv hla hlb hxa hxb
            go_wp2_with fail
            go_meet
            case rel => exact ⟨rfl, ⟨by first | trivial | rfl⟩⟩
        · have e2 : (aw == bw) = false := by simpa using h2
          have hd2 : d = false := by rw [hd]; unfold directB; simp only [Bool.not_false, Bool.true_and, decide_eq_false_iff_not]; rintro ⟨_, h, _⟩; exact h2 h
          subst hd2
          clear hd h1 h2
          go_wp2_with fail
          go_meet
          case rel => exact ⟨rfl, ⟨by first | trivial | rfl⟩⟩
      · have e1 : (ap == bp) = false := by simpa using h1
        have hd2 : d = false := by rw [hd]; unfold directB; simp only [Bool.not_false, Bool.true_and, decide_eq_false_iff_not]; rintro ⟨h, _, _⟩; exact h1 h
        subst hd2
        clear hd h1
        go_wp2_with fail
        go_meet
        case rel => exact ⟨rfl, ⟨by first | trivial | rfl⟩⟩
  case rest =>
  obtain ⟨rfl, ⟨hwc⟩⟩ := hcut
  subst hwc
  obtain ⟨W1, hW1⟩ : ∃ W1, W1 = wc := ⟨_, rfl⟩
  subst hW1
  clear hd
  cases d with
  | true =>
    have hdd := HD.out
    have hob : o = false := by cases o with
      | true => simp at hdd
      | false => rfl
    have hdb : directB ⟨ap, aa, aw⟩ ⟨bp, ba, bw⟩ = true := by rw [hob] at hdd; simpa using hdd.symm
    have HV : Aside0 (shortT n ⟨ap, aa, aw⟩ ⟨bp, ba, bw⟩ o = ⟨true, (ba - aa) * aw, [⟨ap, aw⟩], []⟩) := ⟨by unfold shortT; rw [if_pos hdd.symm]; rfl⟩
    obtain ⟨mv, hmv⟩ : ∃ m, m = (ba - aa) * aw := ⟨_, rfl⟩
    rw [← hmv] at HV
    have hla := HLA.out
    have hlb := HLB.out
    have hxa := HXA.out
    have hxb := HXB.out
    unfold directB at hdb
    simp only [decide_eq_true_eq] at hdb
    have hw1 : IntKind.i64.wrap (ba - aa) = ba - aa := wrap64 (by have := hdb.1; omega) (by have := hdb.1; omega)
    have hw2 : IntKind.i64.wrap ((ba - aa) * aw) = mv := by
      rw [← hmv]
      rcases hxa.2.2.1 with h | h <;> (rw [h] at hmv; exact wrap64 (by omega) (by omega))
    have pl := HP.out.lt
    have p0 := HP.out.c 0 _ rfl; have p1 := HP.out.c 1 _ rfl; have p2 := HP.out.c 2 _ rfl; have p3 := HP.out.c 3 _ rfl
    have pf0 := HP.out.f 0; have pf1 := HP.out.f 1; have pf2 := HP.out.f 2; have pf3 := HP.out.f 3
    clear hdd hob hdb hmv hla hlb hxa hxb
    go_wp2_with fail
    have hbl : w.heap.size + 1 + 1 + 1 < W1.heap.size := pl
    refine bodyPost_ret (v := .agg #[.bool true, .int .i64 mv, .slice (some ⟨W1.heap.size, 0, none⟩) 1 1, .slice none 0 0]) (by simp [results, Try.results142, go_sem, p0, p1, p2, p3, pf0, pf1, pf2, pf3, pl]) rfl ?_
    rw [HV.out]
    refine ⟨_, _, rfl, ?_, Kd.R_nil .., ?_⟩
    · exact R_stp1 _ ⟨ap, aw⟩ (by simp [World.setCell]) (by simp [World.setCell]; omega)
    · have hfb := FB.out
      repeat (first | exact hfb | refine below_alloc ?_ _ | refine below_set ?_ (show w.heap.size ≤ w.heap.size + 1 + 1 + 1 by omega))
  | false =>
    have HV : Aside0 (shortT n ⟨ap, aa, aw⟩ ⟨bp, ba, bw⟩ o = farV n ⟨ap, aa, aw⟩ ⟨bp, ba, bw⟩) := ⟨by unfold shortT; rw [if_neg (by rw [← HD.out]; simp)]⟩
    clear s0 s1 s2
    have n0 := HN.out.c 0 _ rfl; have n1 := HN.out.c 1 _ rfl
    go_wp2_with fail
    (with_reducible refine Calls.mono (costs_any n ((A0, c0), (A1, c1)) ⟨bp, ba, bw⟩ _ (HR.out.below FB.out) HG.out HBB.out) ?_)
    rintro e w2 ⟨bm, known, rfl, hk2, hcs, hbm, b2⟩
    have HCS := Aside0.mk hcs
    clear n0 n1 t0 t1 t2 hcs
    obtain ⟨W3, hW3⟩ : ∃ W3, W3 = ((w2.alloc (.cells #[.int .i64 bp, .int .i64 bw] 85)).alloc (.cells #[.int .i64 ap, .int .i64 aw] 85)).alloc (.cells #[.int .i64 ap, .int .i64 aw] 85) := ⟨_, rfl⟩
    have Q3 : Below w2.heap.size w2 W3 := by rw [hW3]; exact below_alloc (below_alloc (below_alloc (Below.refl _ _) _) _) _
    have N3 := Aside0.mk ((HN.out.below b2).below Q3)
    have S3 := Aside0.mk ((HS.out.below b2).below Q3)
    have S2a := Aside0.mk ((HS.out.below b2).alloc (.cells #[.int .i64 bp, .int .i64 bw] 85))
    have T2 := Aside0.mk (HT.out.below b2)
    have P3 := Aside0.mk ((HP.out.below b2).below Q3)
    have K3 := Aside0.mk (hk2.below Q3)
    have B3 := Aside0.mk (below_more (below_more FB.out b2) Q3)
    have E3 : Aside0 (Bx W3 w2.heap.size [.int .i64 bp, .int .i64 bw]) := ⟨by rw [hW3]; exact ((Bx.new w2 _ 85).alloc _).alloc _⟩
    have C3 : Aside0 (Bx W3 (w2.heap.size + 1) [.int .i64 ap, .int .i64 aw]) := ⟨by
      rw [hW3]
      have := Bx.new (w2.alloc (.cells #[.int .i64 bp, .int .i64 bw] 85)) [.int .i64 ap, .int .i64 aw] 85
      rw [show (w2.alloc (.cells #[.int .i64 bp, .int .i64 bw] 85)).heap.size = w2.heap.size + 1 by simp] at this
      exact this.alloc _⟩
    have R3 : Aside0 (kStep.R 85 W3 (w2.heap.size + 1 + 1) (fun _ => True) (.slice (some ⟨w2.heap.size + 1 + 1, 0, none⟩) 1 1) [stepOf ⟨ap, aa, aw⟩]) := ⟨by
      rw [hW3]
      exact R_stp1 _ ⟨ap, aw⟩ (by simp) (by simp)⟩
    have HZ2 := Aside0.mk (show w.heap.size + 1 + 1 + 1 < w2.heap.size from (HP.out.below b2).lt)
    have HBM := Aside0.mk (show bm < w2.heap.size ∧ w.heap.size ≤ bm by
      refine ⟨hk2.lt, ?_⟩
      have := FB.out.size
      omega)
    have HW3 := Aside0.mk hW3
    have t0 := T2.out.c 0 _ rfl; have t2 := T2.out.c 2 _ rfl
    have s0 := S2a.out.c 0 _ rfl; have s2 := S2a.out.c 2 _ rfl
    clear hk2 hbm hW3 Q3 b2
    go_upto_region 7 with (fail)
    rw [← HW3.out]
    clear t0 t2 s0 s2
    obtain ⟨rm, hrm⟩ : ∃ r, r = roomS n ⟨ap, aa, aw⟩ := ⟨_, rfl⟩
    have HRM := Aside0.mk hrm
    have HRB := Aside0.mk (show 0 ≤ rm ∧ rm ≤ 10000000 by rw [hrm]; exact roomS_bd HG.out HA.out)
    clear hrm
    have n0 := N3.out.c 0 _ rfl; have n1 := N3.out.c 1 _ rfl
    have s0 := S3.out.c 0 _ rfl; have s1 := S3.out.c 1 _ rfl; have s2 := S3.out.c 2 _ rfl
    go_wp2_with fail
    (with_reducible refine Calls.mono (room_any n ((A0, c0), (A1, c1)) ⟨ap, aa, aw⟩ _ (HR.out.below B3.out) (by have := HXA.out; simp only; omega) (by have := HXA.out; simp only; omega) (by have := HXA.out; simp only; omega) (by have := HXA.out; simp only; omega) (by have := HLA.out; simp only; omega)) ?_)
    rintro e w4 ⟨rfl, b4⟩
    rw [← HRM.out]
    have b4' : Below w4.heap.size w4 (w4.alloc (.cells #[.int .i64 (headE ⟨ap, aa, aw⟩).piece, .int .i64 (headE ⟨ap, aa, aw⟩).side] 67)) := below_alloc (Below.refl _ _) _
    have N4 := Aside0.mk ((N3.out.below b4).below b4')
    have P4 := Aside0.mk ((P3.out.below b4).below b4')
    have K4 := Aside0.mk ((K3.out.below b4).below b4')
    have B4 := Aside0.mk (below_more (below_more B3.out b4) b4')
    have E4 := Aside0.mk ((E3.out.below b4).below b4')
    have C4 := Aside0.mk ((C3.out.below b4).below b4')
    have R4 := Aside0.mk (Kd.R_below (Kd.R_below R3.out b4) b4')
    have SP4 : Aside0 (SP n known ⟨ap, aa, aw⟩ ⟨bp, ba, bw⟩ [] (stepOf ⟨ap, aa, aw⟩) rm) := ⟨by rw [HRM.out]; exact SP.start HA.out⟩
    clear n0 n1 s0 s1 s2 b4 b4'
    go_upto_region 8 with (fail)
    go_loopw [12, 13] (fun v12 v13 wr => ∃ (l : List StepT) (s : StepT) (far : Int), v13 = .int .i64 far ∧ Aside0 (SP n known ⟨ap, aa, aw⟩ ⟨bp, ba, bw⟩ l s far) ∧ Aside0 (kStep.R 85 wr (w2.heap.size + 1 + 1) (fun _ => True) v12 (stepOf ⟨ap, aa, aw⟩ :: l)) ∧ Aside0 (Bx wr w.heap.size [.slice A0 n.pieces.length c0, .slice A1 n.joints.length c1]) ∧ Aside0 (Bx wr w2.heap.size [.int .i64 bp, .int .i64 bw]) ∧ Aside0 (Bx wr (w2.heap.size + 1) [.int .i64 s.piece, .int .i64 s.way]) ∧ Aside0 (Bx wr (w.heap.size + 1 + 1 + 1) [.bool false, .int .i64 0, .slice none 0 0, .slice none 0 0]) ∧ Aside0 (MapOf keyStep encC wr bm known) ∧ Aside0 (Below w.heap.size w wr)) (fun v12 _ _ => 300 - lenSl v12)
    case atStart => exact ⟨[], _, rm, rfl, SP4, R4, N4, E4, C4, P4, K4, B4⟩
    case round =>
      obtain ⟨l, s, far, rfl, HSP, RR, NN, EE, CC, PP, KK, BB⟩ := hrel
      obtain ⟨WO, hWO⟩ : ∃ WO : World, WO = wr := ⟨_, rfl⟩
      subst hWO
      obtain ⟨LA, lc, eL⟩ := Kd.R_slice RR.out
      rw [List.length_cons] at eL
      subst eL
      obtain ⟨sp, sw⟩ := s
      simp only at CC
      have hll := SP.len HCS.out HSP.out
      have HLL := Aside0.mk hll
      obtain ⟨W10, hW10⟩ : ∃ W10, W10 = (WO.alloc (.cells #[.int .i64 0, .int .i64 0] 85)).alloc (.cells #[.int .i64 1152921504606846976, .int .i64 0] 217) := ⟨_, rfl⟩
      have Q10 : Aside0 (Below WO.heap.size WO W10) := ⟨by rw [hW10]; exact below_alloc (below_alloc (Below.refl _ _) _) _⟩
      have X10 : Aside0 (Bx W10 WO.heap.size [.int .i64 0, .int .i64 0]) := ⟨by rw [hW10]; exact (Bx.new WO _ 85).alloc _⟩
      have Y10 : Aside0 (Bx W10 (WO.heap.size + 1) [.int .i64 1152921504606846976, .int .i64 0]) := ⟨by
        rw [hW10]
        have := Bx.new (WO.alloc (.cells #[.int .i64 0, .int .i64 0] 85)) [.int .i64 1152921504606846976, .int .i64 0] 217
        rw [show (WO.alloc (.cells #[.int .i64 0, .int .i64 0] 85)).heap.size = WO.heap.size + 1 by simp] at this
        exact this⟩
      have HW10 := Aside0.mk hW10
      have N10 := Aside0.mk (NN.out.below Q10.out)
      have C10 := Aside0.mk (CC.out.below Q10.out)
      clear hW10
      go_upto_region 10 with (fail)
      rw [← HW10.out]
      obtain ⟨⟨hp, hs2⟩, hh⟩ : ∃ e, e = lookS ⟨sp, sw⟩ := ⟨_, rfl⟩
      have HHV : Aside0 ((Value.agg #[.int .i64 (lookS ⟨sp, sw⟩).piece, .int .i64 (lookS ⟨sp, sw⟩).side]) = (Value.agg #[.int .i64 hp, .int .i64 hs2])) := ⟨by rw [← hh]⟩
      have HHE := Aside0.mk hh
      obtain ⟨E, hE⟩ : ∃ E, E = acrossG n ⟨hp, hs2⟩ := ⟨_, rfl⟩
      have HGE := Aside0.mk hE.symm
      have HE := Aside0.mk (show E = acrossE n (lookS ⟨sp, sw⟩) by rw [hE, hh]; exact acrossG_ok HG.out (lookS_ok HSP.out.1))
      have hE2 : E.length ≤ 2 := by rw [HE.out]; unfold acrossE; exact acrossJ_few _ _
      have HE2 := Aside0.mk hE2
      clear hh hE
      have HS8 : Aside0 (∀ W, Below W10.heap.size W10 W → (Below W10.heap.size W10 W ∧ W.cell? ⟨w.heap.size, 0, none⟩ = some (.slice A0 n.pieces.length c0) ∧ W.cell? ⟨w.heap.size, 1, none⟩ = some (.slice A1 n.joints.length c1) ∧ W.cell? ⟨w2.heap.size + 1, 0, none⟩ = some (.int .i64 sp) ∧ W.cell? ⟨w2.heap.size + 1, 1, none⟩ = some (.int .i64 sw))) := ⟨fun W hb => ⟨hb, (N10.out.below hb).c 0 _ rfl, (N10.out.below hb).c 1 _ rfl, (C10.out.below hb).c 0 _ rfl, (C10.out.below hb).c 1 _ rfl⟩⟩
      go_cut [17, 18] (fun s17 s18 W => ∃ AE cE, s17 = .slice AE E.length cE ∧ Aside0 (kEnd.R 67 W W10.heap.size (fun _ => True) (.slice AE E.length cE) E) ∧ Aside0 (Below W10.heap.size W10 W))
      case first =>
        go_region_held3 (fun W => Below W10.heap.size W10 W ∧ W.cell? ⟨w.heap.size, 0, none⟩ = some (.slice A0 n.pieces.length c0) ∧ W.cell? ⟨w.heap.size, 1, none⟩ = some (.slice A1 n.joints.length c1) ∧ W.cell? ⟨w2.heap.size + 1, 0, none⟩ = some (.int .i64 sp) ∧ W.cell? ⟨w2.heap.size + 1, 1, none⟩ = some (.int .i64 sw))
          (first | (with_reducible assumption) | (with_reducible exact HS8.out _ (by with_reducible assumption)) | (with_reducible exact HS8.out _ (Below.drew (Below.refl _ _))))
          (first
            | (go_at_call 155; go_split_ands; (with_reducible refine Calls.mono (looked_any ⟨sp, sw⟩ _) ?_); rintro e w9 ⟨rfl, b9⟩; rw [HHV.out]; have q9 : Below W10.heap.size W10 w9 := below_more (by assumption) b9; clear b9)
            | (go_at_call 136; go_split_ands; have hbq : Below W10.heap.size W10 _ := (by with_reducible assumption); (with_reducible refine Calls.mono (over_any n ((A0, c0), (A1, c1)) ⟨hp, hs2⟩ _ (HR.out.below (below_more (below_more BB.out Q10.out) hbq)) HG.out) ?_); rintro e w11 ⟨v1, v2, rfl, r1, r2, b11⟩; rw [HGE.out] at r1; obtain ⟨AE, cE, eE⟩ := Kd.R_slice r1; subst eE; have q11 : Below W10.heap.size W10 w11 := below_more hbq b11; have Q11 := Aside0.mk q11; have RE11 := Aside0.mk (Kd.R_lower r1 hbq.size); clear b11 hbq r1 r2))
        all_goals
          try go_wp2_with fail
          go_meet
          case rel => exact ⟨_, _, rfl, RE11, Q11⟩
      case rest =>
      obtain ⟨AE, cE, rfl, RE11, Q11⟩ := hcut
      obtain ⟨W11, hW11⟩ : ∃ W11, W11 = wc := ⟨_, rfl⟩
      subst hW11
      have X11 := Aside0.mk (X10.out.below Q11.out)
      have Y11 := Aside0.mk (Y10.out.below Q11.out)
      have B11 := Aside0.mk (below_more Q10.out Q11.out)
      have HS10 := Aside0.mk (show WO.heap.size + 1 < W10.heap.size from Y10.out.lt)
      go_wp2_with fail
      go_loopw [98] (fun v98 wr => ∃ (q : Nat) (x : StepT) (c : CostT), v98 = .int .i64 (q : Int) ∧ q ≤ E.length ∧ Aside0 (PB known ((E.take q).map comesS) x c) ∧ Aside0 (Bx wr WO.heap.size [.int .i64 x.piece, .int .i64 x.way]) ∧ Aside0 (Bx wr (WO.heap.size + 1) [.int .i64 c.1, .int .i64 c.2]) ∧ Aside0 (kEnd.R 67 wr W10.heap.size (fun _ => True) (.slice AE E.length cE) E) ∧ Aside0 (Below WO.heap.size WO wr)) (fun v98 _ => E.length - (intOf v98).toNat)
      case atStart => exact ⟨0, ⟨0, 0⟩, neverC, rfl, Nat.zero_le _, ⟨PB.start _⟩, X11, Y11, RE11, B11⟩
      case round =>
        obtain ⟨q, ⟨xp, xw⟩, ⟨cc1, cc2⟩, rfl, hq, HPB, X2, Y2, RE2, B2⟩ := hrel
        have B2' : Aside0 (Below WO.heap.size WO wr) := B2
        by_cases hlt : q < E.length
        · obtain ⟨WR, hWR⟩ : ∃ WR : World, WR = wr := ⟨_, rfl⟩
          subst hWR
          obtain ⟨adE, eE1, z0, z1⟩ := at_End (Kd.R_reads' RE2.out).2.2 q hlt
          subst eE1
          have hem := getD_mem E q hlt
          rw [HE.out] at hem
          have hee := (HG.out.across (lookS_ok HSP.out.1) hem).1
          rw [← HE.out] at hee
          have htk := congrArg (List.map comesS) (take_getD E q hlt)
          rw [List.map_append] at htk
          obtain ⟨⟨ep, es⟩, he⟩ : ∃ e, e = E.getD q default := ⟨_, rfl⟩
          rw [← he] at z0 z1 hee htk
          obtain ⟨⟨tp, tw⟩, ht⟩ : ∃ t, t = comesS ⟨ep, es⟩ := ⟨_, rfl⟩
          have HTV : Aside0 ((Value.agg #[.int .i64 (comesS ⟨ep, es⟩).piece, .int .i64 (comesS ⟨ep, es⟩).way]) = (Value.agg #[.int .i64 tp, .int .i64 tw])) := ⟨by rw [← ht]⟩
          have HTK : Aside0 ((E.take (q + 1)).map comesS = (E.take q).map comesS ++ [⟨tp, tw⟩]) := ⟨by rw [htk, ht]; rfl⟩
          have hq0 : (0 : Int) ≤ (q : Int) := by omega
          have hq1 : (q : Int) < (E.length : Int) := by omega
          obtain ⟨W12, hW12⟩ : ∃ W12, W12 = WR.alloc (.cells #[.int .i64 ep, .int .i64 es] 67) := ⟨_, rfl⟩
          have Q12 : Aside0 (Below WR.heap.size WR W12) := ⟨by rw [hW12]; exact below_alloc (Below.refl _ _) _⟩
          have Z12 : Aside0 (Bx W12 WR.heap.size [.int .i64 ep, .int .i64 es]) := ⟨by rw [hW12]; exact Bx.new WR _ 67⟩
          have HW12 := Aside0.mk hW12
          clear hem hee htk he ht hW12
          go_upto_region 14 with (fail)
          rw [← HW12.out]
          clear z0 z1
          have e0 := Z12.out.c 0 _ rfl; have e1 := Z12.out.c 1 _ rfl
          go_wp2_with fail
          (with_reducible refine Calls.mono (comes_any ⟨ep, es⟩ _) ?_)
          rintro e W13 ⟨rfl, b13⟩
          rw [HTV.out]
          obtain ⟨W14, hW14⟩ : ∃ W14, W14 = W13.alloc (.cells #[.int .i64 tp, .int .i64 tw] 85) := ⟨_, rfl⟩
          have b14 : Below W13.heap.size W13 W14 := by rw [hW14]; exact below_alloc (Below.refl _ _) _
          have Q14 := Aside0.mk (below_more (below_more Q12.out b13) b14)
          have T14 : Aside0 (Bx W14 W13.heap.size [.int .i64 tp, .int .i64 tw]) := ⟨by rw [hW14]; exact Bx.new W13 _ 85⟩
          have HSZ := Aside0.mk (show WR.heap.size ≤ W13.heap.size by have h1 := Q12.out.size; have h2 := b13.size; omega)
          have HW14 := Aside0.mk hW14
          have K14 := Aside0.mk ((KK.out.below B2'.out).below Q14.out)
          clear e0 e1 hW14 b13 b14
          go_upto_region 15 with (fail)
          rw [← HW14.out]
          have t0 := T14.out.c 0 _ rfl; have t1 := T14.out.c 1 _ rfl
          rcases cost_get K14.out tp tw with ⟨⟨k1, k2⟩, hk, hlk⟩ | ⟨hk, hlk⟩
          · obtain ⟨W15, hW15⟩ : ∃ W15, W15 = W14.alloc (.cells #[.int .i64 k1, .int .i64 k2] 217) := ⟨_, rfl⟩
            have b15 : Below W14.heap.size W14 W15 := by rw [hW15]; exact below_alloc (Below.refl _ _) _
            have Q15 := Aside0.mk (below_more Q14.out b15)
            have T15 := Aside0.mk (T14.out.below b15)
            have V15 : Aside0 (Bx W15 W14.heap.size [.int .i64 k1, .int .i64 k2]) := ⟨by rw [hW15]; exact Bx.new W14 _ 217⟩
            have X15 := Aside0.mk (X2.out.below Q15.out)
            have Y15 := Aside0.mk (Y2.out.below Q15.out)
            have HK := Aside0.mk hk
            have HKB := Aside0.mk (HCS.out.some_ _ _ hk).2.2.2.1
            have HW15 := Aside0.mk hW15
            have HSZ2 := Aside0.mk (show W13.heap.size < W14.heap.size from T14.out.lt)
            clear hk hW15 b15
            go_upto_region 17 with (fail)
            rw [← HW15.out]
            clear t0 t1 hlk
            obtain ⟨lt, hlt5⟩ : ∃ b, b = ltC (k1, k2) (cc1, cc2) := ⟨_, rfl⟩
            have HLT5 := Aside0.mk hlt5.symm
            obtain ⟨tk, htk⟩ : ∃ b, b = (lt || (decide ((k1, k2) = ((cc1, cc2) : CostT)) && stepLt ⟨tp, tw⟩ ⟨xp, xw⟩)) := ⟨_, rfl⟩
            have HTK2 := Aside0.mk htk
            obtain ⟨WQ, hWQ⟩ : ∃ WQ, WQ = W15 := ⟨_, rfl⟩
            subst hWQ
            have HS0 : Aside0 (∀ W, Below WQ.heap.size WQ W → (Below WQ.heap.size WQ W ∧ W.cell? ⟨W14.heap.size, 0, none⟩ = some (.int .i64 k1) ∧ W.cell? ⟨W14.heap.size, 1, none⟩ = some (.int .i64 k2) ∧ W.cell? ⟨WO.heap.size + 1, 0, none⟩ = some (.int .i64 cc1) ∧ W.cell? ⟨WO.heap.size + 1, 1, none⟩ = some (.int .i64 cc2) ∧ W.cell? ⟨W13.heap.size, 0, none⟩ = some (.int .i64 tp) ∧ W.cell? ⟨W13.heap.size, 1, none⟩ = some (.int .i64 tw) ∧ W.cell? ⟨WO.heap.size, 0, none⟩ = some (.int .i64 xp) ∧ W.cell? ⟨WO.heap.size, 1, none⟩ = some (.int .i64 xw))) := ⟨fun W hb => ⟨hb, (V15.out.below hb).c 0 _ rfl, (V15.out.below hb).c 1 _ rfl, (Y15.out.below hb).c 0 _ rfl, (Y15.out.below hb).c 1 _ rfl, (T15.out.below hb).c 0 _ rfl, (T15.out.below hb).c 1 _ rfl, (X15.out.below hb).c 0 _ rfl, (X15.out.below hb).c 1 _ rfl⟩⟩
            clear hlt5 htk
            go_cut [134] (fun s W => s = .bool tk ∧ Aside0 (Below WQ.heap.size WQ W))
            case first =>
              cases lt with
              | true =>
                have e9 : tk = true := by rw [HTK2.out]; rfl
                subst e9
                refine wp_region_held_drew (S := fun W => Below WQ.heap.size WQ W ∧ W.cell? ⟨W14.heap.size, 0, none⟩ = some (.int .i64 k1) ∧ W.cell? ⟨W14.heap.size, 1, none⟩ = some (.int .i64 k2) ∧ W.cell? ⟨WO.heap.size + 1, 0, none⟩ = some (.int .i64 cc1) ∧ W.cell? ⟨WO.heap.size + 1, 1, none⟩ = some (.int .i64 cc2) ∧ W.cell? ⟨W13.heap.size, 0, none⟩ = some (.int .i64 tp) ∧ W.cell? ⟨W13.heap.size, 1, none⟩ = some (.int .i64 tw) ∧ W.cell? ⟨WO.heap.size, 0, none⟩ = some (.int .i64 xp) ∧ W.cell? ⟨WO.heap.size, 1, none⟩ = some (.int .i64 xw)) (by kernel_rfl) ?_ (fun hHeld => ?_)
                · exact HS0.out _ (Below.drew (Below.refl _ _))
                refine tkq (i := 0) (v := ?_) rfl (Or.inl ⟨by rfl, ?_⟩) hHeld ?_; rotate_left; · (intro w h; (try dsimp only at h); go_simp; (try with_reducible rfl))
                (try simp only [Act.put, z1, z2, z3, z4, z5, z6])
                refine tkq (i := 1) (v := ?_) rfl (Or.inl ⟨by rfl, ?_⟩) hHeld ?_; rotate_left; · (intro w h; (try dsimp only at h); go_simp; (try with_reducible rfl))
                (try simp only [Act.put, z1, z2, z3, z4, z5, z6])
                refine wpAnyH_ready (rs := [2]) (by kernel_rfl) (by simp) ?_
                refine AllReadyH.cons rfl (fun K hK => ?_) AllReadyH.nil
                go_simp
                (go_at_call 182; go_split_ands; (with_reducible refine Calls.mono (costLess_any (k1, k2) (cc1, cc2) _) ?_); rintro e w3 ⟨rfl, b3⟩; rw [HLT5.out]; have q3 : Below WQ.heap.size WQ w3 := below_more (by assumption) b3; have Q3 := Aside0.mk q3; clear b3)
                go_wp2_with fail
                refine hK.out _ _ (HS0.out _ (by assumption)) (fun hHeld => ?_)
                clear hK K
                (try simp only [Act.put, z1, z2, z3, z4, z5, z6])
                refine tkq (i := 3) (v := ?_) rfl (Or.inl ⟨by rfl, ?_⟩) hHeld ?_; rotate_left; · (intro w h; (try dsimp only at h); go_simp; (try with_reducible rfl))
                (try simp only [Act.put, z1, z2, z3, z4, z5, z6])
                refine tkq (i := 4) (v := undef) rfl (Or.inr ⟨by rfl, rfl⟩) hHeld ?_
                (try simp only [Act.put, z1, z2, z3, z4, z5, z6])
                refine tkq (i := 5) (v := undef) rfl (Or.inr ⟨by rfl, rfl⟩) hHeld ?_
                (try simp only [Act.put, z1, z2, z3, z4, z5, z6])
                refine tkq (i := 6) (v := undef) rfl (Or.inr ⟨by rfl, rfl⟩) hHeld ?_
                (try simp only [Act.put, z1, z2, z3, z4, z5, z6])
                refine tkq (i := 7) (v := undef) rfl (Or.inr ⟨by rfl, rfl⟩) hHeld ?_
                (try simp only [Act.put, z1, z2, z3, z4, z5, z6])
                refine tkq (i := 8) (v := undef) rfl (Or.inr ⟨by rfl, rfl⟩) hHeld ?_
                (try simp only [Act.put, z1, z2, z3, z4, z5, z6])
                refine tkq (i := 9) (v := undef) rfl (Or.inr ⟨by rfl, rfl⟩) hHeld ?_
                (try simp only [Act.put, z1, z2, z3, z4, z5, z6])
                refine tkq (i := 10) (v := undef) rfl (Or.inr ⟨by rfl, rfl⟩) hHeld ?_
                (try simp only [Act.put, z1, z2, z3, z4, z5, z6])
                refine tkq (i := 11) (v := undef) rfl (Or.inr ⟨by rfl, rfl⟩) hHeld ?_
                (try simp only [Act.put, z1, z2, z3, z4, z5, z6])
                refine tkq (i := 12) (v := undef) rfl (Or.inr ⟨by rfl, rfl⟩) hHeld ?_
                (try simp only [Act.put, z1, z2, z3, z4, z5, z6])
                refine tkq (i := 13) (v := undef) rfl (Or.inr ⟨by rfl, rfl⟩) hHeld ?_
                (try simp only [Act.put, z1, z2, z3, z4, z5, z6])
                refine tkq (i := 14) (v := undef) rfl (Or.inr ⟨by rfl, rfl⟩) hHeld ?_
                (try simp only [Act.put, z1, z2, z3, z4, z5, z6])
                refine tkq (i := 15) (v := undef) rfl (Or.inr ⟨by rfl, rfl⟩) hHeld ?_
                (try simp only [Act.put, z1, z2, z3, z4, z5, z6])
                refine tkq (i := 16) (v := undef) rfl (Or.inr ⟨by rfl, rfl⟩) hHeld ?_
                (try simp only [Act.put, z1, z2, z3, z4, z5, z6])
                refine tkq (i := 17) (v := undef) rfl (Or.inr ⟨by rfl, rfl⟩) hHeld ?_
                (try simp only [Act.put, z1, z2, z3, z4, z5, z6])
                refine tkq (i := 18) (v := undef) rfl (Or.inr ⟨by rfl, rfl⟩) hHeld ?_
                (try simp only [Act.put, z1, z2, z3, z4, z5, z6])
                refine tkq (i := 19) (v := undef) rfl (Or.inr ⟨by rfl, rfl⟩) hHeld ?_
                (try simp only [Act.put, z1, z2, z3, z4, z5, z6])
                refine tkq (i := 20) (v := undef) rfl (Or.inr ⟨by rfl, rfl⟩) hHeld ?_
                (try simp only [Act.put, z1, z2, z3, z4, z5, z6])
                refine tkq (i := 21) (v := undef) rfl (Or.inr ⟨by rfl, rfl⟩) hHeld ?_
                (try simp only [Act.put, z1, z2, z3, z4, z5, z6])
                refine tkq (i := 22) (v := ?_) rfl (Or.inl ⟨by rfl, ?_⟩) hHeld ?_; rotate_left; · (intro w h; (try dsimp only at h); go_simp; (try with_reducible rfl))
                (try simp only [Act.put, z1, z2, z3, z4, z5, z6])
                refine wpAnyH_done (by kernel_rfl) ?_ _
                try go_wp2_with fail
                go_meet
                case rel => exact ⟨rfl, Q3⟩
              | false =>
                by_cases h1 : k1 = cc1
                · by_cases h2 : k2 = cc2
                  · have e0 : (k1 == cc1) = true := by simpa using h1
                    have e1 : (k2 == cc2) = true := by simpa using h2
                    have hcon : ∀ a b W, Calls Try.prog 166 #[.int .i64 a, .int .i64 b] W fun e w' => e = .returned (.int .i64 (Go.Lib.compareInt a b)) ∧ w' = W := fun a b W => Go.Proofs.AnyG.cmp_Compare_int Go.Proofs.Ytckcffjnffcjcaa.cmpInt a b W
                    have HCN := Aside0.mk hcon
                    obtain ⟨d1, hd1⟩ : ∃ c, c = Go.Lib.compareInt tp xp := ⟨_, rfl⟩
                    obtain ⟨d2, hd2⟩ : ∃ c, c = Go.Lib.compareInt tw xw := ⟨_, rfl⟩
                    have HD1 := Aside0.mk hd1; have HD2 := Aside0.mk hd2
                    obtain ⟨d3, hd3⟩ : ∃ c, c = or2 d1 d2 := ⟨_, rfl⟩
                    have HD3 := Aside0.mk hd3
                    have e9 : tk = decide (d3 < 0) := by
                      rw [HTK2.out, hd3, hd1, hd2]
                      have := cmpStep ⟨tp, tw⟩ ⟨xp, xw⟩
                      simp only at this
                      rw [this]
                      simp [h1, h2]
                    subst e9
                    clear h1 h2 hcon hd1 hd2 hd3
                    go_region_held3 (fun W => Below WQ.heap.size WQ W ∧ W.cell? ⟨W14.heap.size, 0, none⟩ = some (.int .i64 k1) ∧ W.cell? ⟨W14.heap.size, 1, none⟩ = some (.int .i64 k2) ∧ W.cell? ⟨WO.heap.size + 1, 0, none⟩ = some (.int .i64 cc1) ∧ W.cell? ⟨WO.heap.size + 1, 1, none⟩ = some (.int .i64 cc2) ∧ W.cell? ⟨W13.heap.size, 0, none⟩ = some (.int .i64 tp) ∧ W.cell? ⟨W13.heap.size, 1, none⟩ = some (.int .i64 tw) ∧ W.cell? ⟨WO.heap.size, 0, none⟩ = some (.int .i64 xp) ∧ W.cell? ⟨WO.heap.size, 1, none⟩ = some (.int .i64 xw))
                      (first | (with_reducible assumption) | (with_reducible exact HS0.out _ (by with_reducible assumption)) | (with_reducible exact HS0.out _ (by repeat (first | (with_reducible assumption) | (with_reducible refine below_alloc ?_ _) | (with_reducible refine below_drew ?_) | (with_reducible exact Below.refl _ _)))))
                      (first
                        | (go_at_call 182; go_split_ands; (with_reducible refine Calls.mono (costLess_any (k1, k2) (cc1, cc2) _) ?_); rintro e w3 ⟨rfl, b3⟩; rw [HLT5.out]; have q3 : Below WQ.heap.size WQ w3 := below_more (by assumption) b3; have Q3 := Aside0.mk q3; clear b3)
                        | (go_at_call 166; go_split_ands; (with_reducible refine Calls.mono (HCN.out tp xp _) ?_); rintro e t0 ⟨rfl, rfl⟩; rw [← HD1.out])
                        | (go_at_call 166; go_split_ands; (with_reducible refine Calls.mono (HCN.out tw xw _) ?_); rintro e t0 ⟨rfl, rfl⟩; rw [← HD2.out])
                        | (go_at_call 165; go_split_ands; (with_reducible refine Calls.mono (cmpOr2_any _ d1 d2 _ (by first | exact Bx.new _ _ _ | exact Bx.drew (Bx.new _ _ _))) ?_); rintro e t0 ⟨rfl, rfl⟩; rw [← HD3.out]))
                    all_goals
                      try go_wp2_with fail
                      go_meet
                      case rel => first | exact ⟨rfl, ⟨below_alloc Q3.out _⟩⟩ | exact ⟨rfl, ⟨below_drew (below_alloc Q3.out _)⟩⟩ | exact ⟨rfl, Q3⟩
                  · have e1 : (k2 == cc2) = false := by simpa using h2
                    have e9 : tk = false := by rw [HTK2.out]; simp [h2]
                    subst e9
                    have e0 : (k1 == cc1) = true := by simpa using h1
                    clear h1 h2
                    refine wp_region_held_drew (S := fun W => Below WQ.heap.size WQ W ∧ W.cell? ⟨W14.heap.size, 0, none⟩ = some (.int .i64 k1) ∧ W.cell? ⟨W14.heap.size, 1, none⟩ = some (.int .i64 k2) ∧ W.cell? ⟨WO.heap.size + 1, 0, none⟩ = some (.int .i64 cc1) ∧ W.cell? ⟨WO.heap.size + 1, 1, none⟩ = some (.int .i64 cc2) ∧ W.cell? ⟨W13.heap.size, 0, none⟩ = some (.int .i64 tp) ∧ W.cell? ⟨W13.heap.size, 1, none⟩ = some (.int .i64 tw) ∧ W.cell? ⟨WO.heap.size, 0, none⟩ = some (.int .i64 xp) ∧ W.cell? ⟨WO.heap.size, 1, none⟩ = some (.int .i64 xw)) (by kernel_rfl) ?_ (fun hHeld => ?_)
                    · exact HS0.out _ (Below.drew (Below.refl _ _))
                    refine tkq (i := 0) (v := ?_) rfl (Or.inl ⟨by rfl, ?_⟩) hHeld ?_; rotate_left; · (intro w h; (try dsimp only at h); go_simp; (try with_reducible rfl))
                    (try simp only [Act.put, z1, z2, z3, z4, z5, z6])
                    refine tkq (i := 1) (v := ?_) rfl (Or.inl ⟨by rfl, ?_⟩) hHeld ?_; rotate_left; · (intro w h; (try dsimp only at h); go_simp; (try with_reducible rfl))
                    (try simp only [Act.put, z1, z2, z3, z4, z5, z6])
                    refine wpAnyH_ready (rs := [2]) (by kernel_rfl) (by simp) ?_
                    refine AllReadyH.cons rfl (fun K hK => ?_) AllReadyH.nil
                    go_simp
                    (go_at_call 182; go_split_ands; (with_reducible refine Calls.mono (costLess_any (k1, k2) (cc1, cc2) _) ?_); rintro e w3 ⟨rfl, b3⟩; rw [HLT5.out]; have q3 : Below WQ.heap.size WQ w3 := below_more (by assumption) b3; have Q3 := Aside0.mk q3; clear b3)
                    go_wp2_with fail
                    refine hK.out _ _ (HS0.out _ (by assumption)) (fun hHeld => ?_)
                    clear hK K
                    (try simp only [Act.put, z1, z2, z3, z4, z5, z6])
                    refine tkq (i := 3) (v := ?_) rfl (Or.inl ⟨by rfl, ?_⟩) hHeld ?_; rotate_left; · (intro w h; (try dsimp only at h); go_simp; (try with_reducible rfl))
                    (try simp only [Act.put, z1, z2, z3, z4, z5, z6])
                    refine tkq (i := 4) (v := ?_) rfl (Or.inl ⟨by rfl, ?_⟩) hHeld ?_; rotate_left; · (intro w h; (try dsimp only at h); go_simp; (try with_reducible rfl))
                    (try simp only [Act.put, z1, z2, z3, z4, z5, z6])
                    refine tkq (i := 5) (v := ?_) rfl (Or.inl ⟨by rfl, ?_⟩) hHeld ?_; rotate_left; · (intro w h; (try dsimp only at h); go_simp; (try with_reducible rfl))
                    (try simp only [Act.put, z1, z2, z3, z4, z5, z6])
                    refine tkq (i := 6) (v := .bool false) rfl (Or.inl ⟨by rfl, ?_⟩) hHeld ?_
                    · (intro w hSw; (try dsimp only at hSw); go_simp; (try simp); (try omega))
                    (try simp only [Act.put, z1, z2, z3, z4, z5, z6])
                    refine tkq (i := 7) (v := ?_) rfl (Or.inl ⟨by rfl, ?_⟩) hHeld ?_; rotate_left; · (intro w h; (try dsimp only at h); go_simp; (try with_reducible rfl))
                    (try simp only [Act.put, z1, z2, z3, z4, z5, z6])
                    refine tkq (i := 8) (v := undef) rfl (Or.inr ⟨by rfl, rfl⟩) hHeld ?_
                    (try simp only [Act.put, z1, z2, z3, z4, z5, z6])
                    refine tkq (i := 9) (v := undef) rfl (Or.inr ⟨by rfl, rfl⟩) hHeld ?_
                    (try simp only [Act.put, z1, z2, z3, z4, z5, z6])
                    refine tkq (i := 10) (v := undef) rfl (Or.inr ⟨by rfl, rfl⟩) hHeld ?_
                    (try simp only [Act.put, z1, z2, z3, z4, z5, z6])
                    refine tkq (i := 11) (v := undef) rfl (Or.inr ⟨by rfl, rfl⟩) hHeld ?_
                    (try simp only [Act.put, z1, z2, z3, z4, z5, z6])
                    refine tkq (i := 12) (v := undef) rfl (Or.inr ⟨by rfl, rfl⟩) hHeld ?_
                    (try simp only [Act.put, z1, z2, z3, z4, z5, z6])
                    refine tkq (i := 13) (v := undef) rfl (Or.inr ⟨by rfl, rfl⟩) hHeld ?_
                    (try simp only [Act.put, z1, z2, z3, z4, z5, z6])
                    refine tkq (i := 14) (v := undef) rfl (Or.inr ⟨by rfl, rfl⟩) hHeld ?_
                    (try simp only [Act.put, z1, z2, z3, z4, z5, z6])
                    refine tkq (i := 15) (v := undef) rfl (Or.inr ⟨by rfl, rfl⟩) hHeld ?_
                    (try simp only [Act.put, z1, z2, z3, z4, z5, z6])
                    refine tkq (i := 16) (v := undef) rfl (Or.inr ⟨by rfl, rfl⟩) hHeld ?_
                    (try simp only [Act.put, z1, z2, z3, z4, z5, z6])
                    refine tkq (i := 17) (v := undef) rfl (Or.inr ⟨by rfl, rfl⟩) hHeld ?_
                    (try simp only [Act.put, z1, z2, z3, z4, z5, z6])
                    refine tkq (i := 18) (v := undef) rfl (Or.inr ⟨by rfl, rfl⟩) hHeld ?_
                    (try simp only [Act.put, z1, z2, z3, z4, z5, z6])
                    refine tkq (i := 19) (v := undef) rfl (Or.inr ⟨by rfl, rfl⟩) hHeld ?_
                    (try simp only [Act.put, z1, z2, z3, z4, z5, z6])
                    refine tkq (i := 20) (v := undef) rfl (Or.inr ⟨by rfl, rfl⟩) hHeld ?_
                    (try simp only [Act.put, z1, z2, z3, z4, z5, z6])
                    refine tkq (i := 21) (v := ?_) rfl (Or.inl ⟨by rfl, ?_⟩) hHeld ?_; rotate_left; · (intro w h; (try dsimp only at h); go_simp; (try with_reducible rfl))
                    (try simp only [Act.put, z1, z2, z3, z4, z5, z6])
                    refine tkq (i := 22) (v := ?_) rfl (Or.inl ⟨by rfl, ?_⟩) hHeld ?_; rotate_left; · (intro w h; (try dsimp only at h); go_simp; (try with_reducible rfl))
                    (try simp only [Act.put, z1, z2, z3, z4, z5, z6])
                    refine wpAnyH_done (by kernel_rfl) ?_ _
                    try go_wp2_with fail
                    go_meet
                    case rel => exact ⟨rfl, Q3⟩
                · have e1 : (k1 == cc1) = false := by simpa using h1
                  have e9 : tk = false := by rw [HTK2.out]; simp [h1]
                  subst e9
                  clear h1
                  refine wp_region_held_drew (S := fun W => Below WQ.heap.size WQ W ∧ W.cell? ⟨W14.heap.size, 0, none⟩ = some (.int .i64 k1) ∧ W.cell? ⟨W14.heap.size, 1, none⟩ = some (.int .i64 k2) ∧ W.cell? ⟨WO.heap.size + 1, 0, none⟩ = some (.int .i64 cc1) ∧ W.cell? ⟨WO.heap.size + 1, 1, none⟩ = some (.int .i64 cc2) ∧ W.cell? ⟨W13.heap.size, 0, none⟩ = some (.int .i64 tp) ∧ W.cell? ⟨W13.heap.size, 1, none⟩ = some (.int .i64 tw) ∧ W.cell? ⟨WO.heap.size, 0, none⟩ = some (.int .i64 xp) ∧ W.cell? ⟨WO.heap.size, 1, none⟩ = some (.int .i64 xw)) (by kernel_rfl) ?_ (fun hHeld => ?_)
                  · exact HS0.out _ (Below.drew (Below.refl _ _))
                  refine tkq (i := 0) (v := ?_) rfl (Or.inl ⟨by rfl, ?_⟩) hHeld ?_; rotate_left; · (intro w h; (try dsimp only at h); go_simp; (try with_reducible rfl))
                  (try simp only [Act.put, z1, z2, z3, z4, z5, z6])
                  refine tkq (i := 1) (v := ?_) rfl (Or.inl ⟨by rfl, ?_⟩) hHeld ?_; rotate_left; · (intro w h; (try dsimp only at h); go_simp; (try with_reducible rfl))
                  (try simp only [Act.put, z1, z2, z3, z4, z5, z6])
                  refine wpAnyH_ready (rs := [2]) (by kernel_rfl) (by simp) ?_
                  refine AllReadyH.cons rfl (fun K hK => ?_) AllReadyH.nil
                  go_simp
                  (go_at_call 182; go_split_ands; (with_reducible refine Calls.mono (costLess_any (k1, k2) (cc1, cc2) _) ?_); rintro e w3 ⟨rfl, b3⟩; rw [HLT5.out]; have q3 : Below WQ.heap.size WQ w3 := below_more (by assumption) b3; have Q3 := Aside0.mk q3; clear b3)
                  go_wp2_with fail
                  refine hK.out _ _ (HS0.out _ (by assumption)) (fun hHeld => ?_)
                  clear hK K
                  (try simp only [Act.put, z1, z2, z3, z4, z5, z6])
                  refine tkq (i := 3) (v := ?_) rfl (Or.inl ⟨by rfl, ?_⟩) hHeld ?_; rotate_left; · (intro w h; (try dsimp only at h); go_simp; (try with_reducible rfl))
                  (try simp only [Act.put, z1, z2, z3, z4, z5, z6])
                  refine tkq (i := 4) (v := ?_) rfl (Or.inl ⟨by rfl, ?_⟩) hHeld ?_; rotate_left; · (intro w h; (try dsimp only at h); go_simp; (try with_reducible rfl))
                  (try simp only [Act.put, z1, z2, z3, z4, z5, z6])
                  refine tkq (i := 5) (v := ?_) rfl (Or.inl ⟨by rfl, ?_⟩) hHeld ?_; rotate_left; · (intro w h; (try dsimp only at h); go_simp; (try with_reducible rfl))
                  (try simp only [Act.put, z1, z2, z3, z4, z5, z6])
                  refine tkq (i := 6) (v := .bool false) rfl (Or.inl ⟨by rfl, ?_⟩) hHeld ?_
                  · (intro w hSw; (try dsimp only at hSw); go_simp; (try simp); (try omega))
                  (try simp only [Act.put, z1, z2, z3, z4, z5, z6])
                  refine tkq (i := 7) (v := ?_) rfl (Or.inl ⟨by rfl, ?_⟩) hHeld ?_; rotate_left; · (intro w h; (try dsimp only at h); go_simp; (try with_reducible rfl))
                  (try simp only [Act.put, z1, z2, z3, z4, z5, z6])
                  refine tkq (i := 8) (v := undef) rfl (Or.inr ⟨by rfl, rfl⟩) hHeld ?_
                  (try simp only [Act.put, z1, z2, z3, z4, z5, z6])
                  refine tkq (i := 9) (v := undef) rfl (Or.inr ⟨by rfl, rfl⟩) hHeld ?_
                  (try simp only [Act.put, z1, z2, z3, z4, z5, z6])
                  refine tkq (i := 10) (v := undef) rfl (Or.inr ⟨by rfl, rfl⟩) hHeld ?_
                  (try simp only [Act.put, z1, z2, z3, z4, z5, z6])
                  refine tkq (i := 11) (v := undef) rfl (Or.inr ⟨by rfl, rfl⟩) hHeld ?_
                  (try simp only [Act.put, z1, z2, z3, z4, z5, z6])
                  refine tkq (i := 12) (v := undef) rfl (Or.inr ⟨by rfl, rfl⟩) hHeld ?_
                  (try simp only [Act.put, z1, z2, z3, z4, z5, z6])
                  refine tkq (i := 13) (v := undef) rfl (Or.inr ⟨by rfl, rfl⟩) hHeld ?_
                  (try simp only [Act.put, z1, z2, z3, z4, z5, z6])
                  refine tkq (i := 14) (v := undef) rfl (Or.inr ⟨by rfl, rfl⟩) hHeld ?_
                  (try simp only [Act.put, z1, z2, z3, z4, z5, z6])
                  refine tkq (i := 15) (v := undef) rfl (Or.inr ⟨by rfl, rfl⟩) hHeld ?_
                  (try simp only [Act.put, z1, z2, z3, z4, z5, z6])
                  refine tkq (i := 16) (v := undef) rfl (Or.inr ⟨by rfl, rfl⟩) hHeld ?_
                  (try simp only [Act.put, z1, z2, z3, z4, z5, z6])
                  refine tkq (i := 17) (v := undef) rfl (Or.inr ⟨by rfl, rfl⟩) hHeld ?_
                  (try simp only [Act.put, z1, z2, z3, z4, z5, z6])
                  refine tkq (i := 18) (v := undef) rfl (Or.inr ⟨by rfl, rfl⟩) hHeld ?_
                  (try simp only [Act.put, z1, z2, z3, z4, z5, z6])
                  refine tkq (i := 19) (v := undef) rfl (Or.inr ⟨by rfl, rfl⟩) hHeld ?_
                  (try simp only [Act.put, z1, z2, z3, z4, z5, z6])
                  refine tkq (i := 20) (v := undef) rfl (Or.inr ⟨by rfl, rfl⟩) hHeld ?_
                  (try simp only [Act.put, z1, z2, z3, z4, z5, z6])
                  refine tkq (i := 21) (v := ?_) rfl (Or.inl ⟨by rfl, ?_⟩) hHeld ?_; rotate_left; · (intro w h; (try dsimp only at h); go_simp; (try with_reducible rfl))
                  (try simp only [Act.put, z1, z2, z3, z4, z5, z6])
                  refine tkq (i := 22) (v := ?_) rfl (Or.inl ⟨by rfl, ?_⟩) hHeld ?_; rotate_left; · (intro w h; (try dsimp only at h); go_simp; (try with_reducible rfl))
                  (try simp only [Act.put, z1, z2, z3, z4, z5, z6])
                  refine wpAnyH_done (by kernel_rfl) ?_ _
                  try go_wp2_with fail
                  go_meet
                  case rel => exact ⟨rfl, Q3⟩
            case rest =>
            obtain ⟨rfl, Q16⟩ := hcut
            obtain ⟨W16, hW16⟩ : ∃ W16, W16 = wc := ⟨_, rfl⟩
            subst hW16
            have QF := Aside0.mk (below_more Q15.out Q16.out)
            have X16 := Aside0.mk (X15.out.below Q16.out)
            have Y16 := Aside0.mk (Y15.out.below Q16.out)
            have T16 := Aside0.mk (T15.out.below Q16.out)
            have V16 := Aside0.mk (V15.out.below Q16.out)
            have RE16 := Aside0.mk (Kd.R_below RE2.out QF.out)
            have BF := Aside0.mk (below_low B2.out QF.out B2.out.size)
            have HTK3 := Aside0.mk HTK2.out
            cases tk with
            | false =>
              have hf := HTK3.out
              have HPN := Aside0.mk (HPB.out.leave HK.out HKB.out (by rw [HLT5.out]; cases lt with
                | false => rfl
                | true => simp at hf) (fun e => by
                cases hs : stepLt ⟨tp, tw⟩ ⟨xp, xw⟩ with
                | false => rfl
                | true => rw [hs, e] at hf; simp at hf))
              clear hf
              go_wp2_with fail
              go_roundw
              case rel => exact ⟨q + 1, ⟨xp, xw⟩, (cc1, cc2), by go_num, by omega, ⟨by rw [HTK.out]; exact HPN.out⟩, X16, Y16, RE16, BF⟩
              case measure => simp [intOf]; omega
            | true =>
              have hf := HTK3.out
              have HPN := Aside0.mk (HPB.out.take HK.out HKB.out (by
                cases lt with
                | true => exact .inl HLT5.out
                | false =>
                  simp only [Bool.false_or, Bool.true_eq, Bool.and_eq_true, decide_eq_true_eq] at hf
                  exact .inr hf))
              have x0 := T16.out.c 0 _ rfl; have x1 := T16.out.c 1 _ rfl
              have v0 := V16.out.c 0 _ rfl; have v1 := V16.out.c 1 _ rfl
              have sf0 := X16.out.f 0; have sf1 := X16.out.f 1; have cf0 := Y16.out.f 0; have cf1 := Y16.out.f 1
              have sl := X16.out.lt; have cl := Y16.out.lt
              have s0 := X16.out.c 0 _ rfl; have s1 := X16.out.c 1 _ rfl
              have c0' := Y16.out.c 0 _ rfl; have c1' := Y16.out.c 1 _ rfl
              have hz1 := HSZ.out; have hz2 := HSZ2.out; have hz3 := Y2.out.lt
              have hd1 : ¬ (W14.heap.size = WO.heap.size) := by omega
              have hd2 : ¬ (W13.heap.size = WO.heap.size) := by omega
              have hd3 : ¬ (W13.heap.size = WO.heap.size + 1) := by omega
              have hd4 : ¬ (W14.heap.size = WO.heap.size + 1) := by omega
              have hd5 : ¬ (WO.heap.size = W14.heap.size) := by omega
              have hd6 : ¬ (WO.heap.size = W13.heap.size) := by omega
              have hd7 : ¬ (WO.heap.size + 1 = W13.heap.size) := by omega
              have hd8 : ¬ (WO.heap.size + 1 = W14.heap.size) := by omega
              obtain ⟨WS, hWS⟩ : ∃ WS, WS = ((((W16.setCell ⟨WO.heap.size, 0, none⟩ (.int .i64 tp)).setCell ⟨WO.heap.size, 1, none⟩ (.int .i64 tw)).setCell ⟨WO.heap.size + 1, 0, none⟩ (.int .i64 k1)).setCell ⟨WO.heap.size + 1, 1, none⟩ (.int .i64 k2)).drew := ⟨_, rfl⟩
              have hne1 : WO.heap.size ≠ WO.heap.size + 1 := by omega
              have hz4 := HS10.out
              have SS : Aside0 (Bx WS WO.heap.size [.int .i64 tp, .int .i64 tw]) := ⟨by rw [hWS]; exact ((((X16.out.set (i := 0) (by simp) _).set (i := 1) (by simp) _).far hne1 _).far hne1 _).drew⟩
              have CS : Aside0 (Bx WS (WO.heap.size + 1) [.int .i64 k1, .int .i64 k2]) := ⟨by rw [hWS]; exact ((((Y16.out.far hne1.symm _).far hne1.symm _).set (i := 0) (by simp) _).set (i := 1) (by simp) _).drew⟩
              have RS : Aside0 (kEnd.R 67 WS W10.heap.size (fun _ => True) (.slice (some adE) E.length cE) E) := ⟨by rw [hWS]; exact Kd.R_drew (R_apart (R_apart (R_apart (R_apart RE16.out (show WO.heap.size < W10.heap.size by omega) _) (show WO.heap.size < W10.heap.size by omega) _) (show WO.heap.size + 1 < W10.heap.size by omega) _) (show WO.heap.size + 1 < W10.heap.size by omega) _)⟩
              have BS : Aside0 (Below WO.heap.size WO WS) := ⟨by rw [hWS]; exact below_drew (below_set (below_set (below_set (below_set BF.out (Nat.le_refl _)) (Nat.le_refl _)) (show WO.heap.size ≤ WO.heap.size + 1 by omega)) (show WO.heap.size ≤ WO.heap.size + 1 by omega))⟩
              have HWS := Aside0.mk hWS
              clear hf hWS hne1 hz1 hz2 hz3 hz4
              go_wp2_with fail
              go_region
              all_goals
                try go_wp2_with fail
                rw [← HWS.out]
                go_roundw
                case rel => exact ⟨q + 1, ⟨tp, tw⟩, (k1, k2), by go_num, by omega, ⟨by rw [HTK.out]; exact HPN.out⟩, SS, CS, RS, BS⟩
                case measure => simp [intOf]; omega
          · have HV := Aside0.mk (HPB.out.skip hk)
            clear hk
            have QF := Aside0.mk (below_alloc Q14.out (.cells #[.int .i64 0, .int .i64 0] 217))
            go_wp2_with fail
            go_roundw
            case rel =>
              exact ⟨q + 1, ⟨xp, xw⟩, (cc1, cc2), by go_num, by omega, ⟨by rw [HTK.out]; exact HV.out⟩, ⟨X2.out.below QF.out⟩, ⟨Y2.out.below QF.out⟩, ⟨Kd.R_below RE2.out QF.out⟩, ⟨below_low B2.out QF.out B2.out.size⟩⟩
            case measure => simp [intOf]; omega
        · have hqe : q = E.length := by omega
          have hge : ¬ (q : Int) < (E.length : Int) := by omega
          have HPS : Aside0 (PB known (succS n ⟨sp, sw⟩) ⟨xp, xw⟩ (cc1, cc2)) := ⟨by
            have h := HPB.out
            rw [hqe, List.take_length] at h
            unfold succS
            rw [← HE.out]
            exact h⟩
          have N2 := Aside0.mk (NN.out.below B2.out)
          have E2 := Aside0.mk (EE.out.below B2.out)
          have C2 := Aside0.mk (CC.out.below B2.out)
          have P2 := Aside0.mk (PP.out.below B2.out)
          have K2 := Aside0.mk (KK.out.below B2.out)
          have R2 := Aside0.mk (Kd.R_below RR.out B2.out)
          have BB2 := Aside0.mk (below_more BB.out B2.out)
          have HYN : Aside0 (∀ k, (Value.slice LA (l.length + 1) lc).ownBlock = some k → k = WO.heap.size + 1 → False) := ⟨fun k hk he => by have h1 := Kd.R_lt RR.out k hk; omega⟩
          clear hqe
          have y0 := Y2.out.c 0 _ rfl
          by_cases hcn : cc1 = 1152921504606846976
          · have e1 : (cc1 == 1152921504606846976) = true := by simpa using hcn
            have HFV := Aside0.mk (SP.none_ HCS.out HG.out HA.out HSP.out (HPS.out.none_ hcn))
            have pl := P2.out.lt
            have p0 := P2.out.c 0 _ rfl; have p1 := P2.out.c 1 _ rfl; have p2 := P2.out.c 2 _ rfl; have p3 := P2.out.c 3 _ rfl
            have pf0 := P2.out.f 0; have pf1 := P2.out.f 1; have pf2 := P2.out.f 2; have pf3 := P2.out.f 3
            clear hcn
            go_wp2_with fail
            refine bodyPost_ret (v := .agg #[.bool false, .int .i64 0, .slice none 0 0, .slice none 0 0]) (by simp [results, Try.results142, go_sem, p0, p1, p2, p3, pf0, pf1, pf2, pf3, pl]) rfl ?_
            rw [HV.out, HFV.out]
            refine ⟨_, _, rfl, Kd.R_nil .., Kd.R_nil .., ?_⟩
            have hfb := BB2.out
            repeat (first | exact hfb | refine below_alloc ?_ _ | refine below_set ?_ (show w.heap.size ≤ w.heap.size + 1 + 1 + 1 by omega))
          · have e1 : (cc1 == 1152921504606846976) = false := by simpa using hcn
            have HPK := Aside0.mk (HPS.out.pick hcn)
            obtain ⟨fr2, hfr⟩ : ∃ f, f = (if l = [] then far + cc1 else far) := ⟨_, rfl⟩
            have HFR := Aside0.mk hfr
            have hcb := HCS.out.some_ _ _ HPK.out.k
            have HCB := Aside0.mk (show 0 ≤ cc1 ∧ cc1 ≤ 2010000000 from ⟨hcb.2.2.1, hcb.2.2.2.1⟩)
            clear hcn hfr hcb
            go_upto_if 144 with (fail)
            go_cut [13] (fun s13 W => s13 = .int .i64 fr2 ∧ Aside0 (W = wr))
            case first =>
              by_cases hl0 : l = []
              · have e2 : fr2 = far + cc1 := by rw [HFR.out, if_pos hl0]
                have hfb : far ≤ 10000000 ∧ 0 ≤ far := by
                  obtain ⟨_, h⟩ := HSP.out
                  rcases h with ⟨_, _, h3⟩ | ⟨t, l', c1, cs, h1, _⟩
                  · have h4 := HRB.out
                    have h5 := HRM.out
                    omega
                  · rw [hl0] at h1; cases h1
                have hcb := HCB.out
                have hw : IntKind.i64.wrap (far + cc1) = fr2 := by rw [e2]; exact wrap64 (by omega) (by omega)
                have e3 : ((l.length : Int) + 1 == 1) = true := by rw [hl0]; rfl
                clear hl0 e2 hfb hcb
                go_wp2_with fail
                go_meet
                case rel => exact ⟨rfl, ⟨by first | trivial | rfl⟩⟩
              · have e2 : fr2 = far := by rw [HFR.out, if_neg hl0]
                have e3 : ((l.length : Int) + 1 == 1) = false := by
                  have h : l.length ≠ 0 := fun h => hl0 (List.length_eq_zero_iff.1 h)
                  simp only [beq_eq_false_iff_ne, ne_eq]
                  omega
                subst e2
                clear hl0
                go_wp2_with fail
                go_meet
                case rel => exact ⟨rfl, ⟨by first | trivial | rfl⟩⟩
            case rest =>
            obtain ⟨rfl, ⟨hwc⟩⟩ := hcut
            subst hwc
            obtain ⟨WT, hWT⟩ : ∃ WT, WT = (wc.setCell ⟨w2.heap.size + 1, 0, none⟩ (.int .i64 xp)).setCell ⟨w2.heap.size + 1, 1, none⟩ (.int .i64 xw) := ⟨_, rfl⟩
            have NT : Aside0 (Bx WT w.heap.size [.slice A0 n.pieces.length c0, .slice A1 n.joints.length c1]) := ⟨by rw [hWT]; exact (N2.out.far (by have := HZ2.out; omega) _).far (by have := HZ2.out; omega) _⟩
            have ET : Aside0 (Bx WT w2.heap.size [.int .i64 bp, .int .i64 bw]) := ⟨by rw [hWT]; exact (E2.out.far (by omega) _).far (by omega) _⟩
            have CT : Aside0 (Bx WT (w2.heap.size + 1) [.int .i64 xp, .int .i64 xw]) := ⟨by rw [hWT]; exact (C2.out.set (i := 0) (by simp) _).set (i := 1) (by simp) _⟩
            have PT : Aside0 (Bx WT (w.heap.size + 1 + 1 + 1) [.bool false, .int .i64 0, .slice none 0 0, .slice none 0 0]) := ⟨by rw [hWT]; exact (P2.out.far (by have := HZ2.out; omega) _).far (by have := HZ2.out; omega) _⟩
            have KT : Aside0 (MapOf keyStep encC WT bm known) := ⟨by rw [hWT]; exact (K2.out.setCell _ _).setCell _ _⟩
            have RT : Aside0 (kStep.R 85 WT (w2.heap.size + 1 + 1) (fun _ => True) (.slice LA (l.length + 1) lc) (stepOf ⟨ap, aa, aw⟩ :: l)) := ⟨by rw [hWT]; exact R_apart (R_apart R2.out (show w2.heap.size + 1 < w2.heap.size + 1 + 1 by omega) _) (show w2.heap.size + 1 < w2.heap.size + 1 + 1 by omega) _⟩
            have YT : Aside0 (Bx WT (WO.heap.size + 1) [.int .i64 cc1, .int .i64 cc2]) := ⟨by rw [hWT]; have h := CC.out.lt; exact (Y2.out.far (by omega) _).far (by omega) _⟩
            have BT : Aside0 (Below w.heap.size w WT) := ⟨by rw [hWT]; exact below_set (below_set BB2.out (show w.heap.size ≤ w2.heap.size + 1 by have := HZ2.out; omega)) (show w.heap.size ≤ w2.heap.size + 1 by have := HZ2.out; omega)⟩
            have HZT := Aside0.mk (show w2.heap.size + 1 + 1 ≤ WT.heap.size by have h1 := CT.out.lt; omega)
            have HWT := Aside0.mk hWT
            have cf0 := C2.out.f 0; have cf1 := C2.out.f 1; have cl := C2.out.lt
            have d0 := C2.out.c 0 _ rfl; have d1 := C2.out.c 1 _ rfl
            have x0 := X2.out.c 0 _ rfl; have x1 := X2.out.c 1 _ rfl
            have hdx : ¬ (WO.heap.size = w2.heap.size + 1) := by have h := CC.out.lt; omega
            clear hWT y0
            go_upto_region 25 with (fail)
            rw [← HWT.out]
            clear cf0 cf1 cl d0 d1 x0 x1 hdx
            have z0 := CT.out.c 0 _ rfl; have z1 := CT.out.c 1 _ rfl
            by_cases hx : xp = bp
            · have e2 : (xp == bp) = true := by simpa using hx
              by_cases hw : xw = bw
              · have e3 : (xw == bw) = true := by simpa using hw
                have HFIN := Aside0.mk (show (⟨xp, xw⟩ : StepT) = stepOf ⟨bp, ba, bw⟩ by rw [hx, hw]; rfl)
                have e4 : (cc2 == 1) = true := by
                  have h := HPK.out.k
                  rw [HFIN.out] at h
                  have := fin_cost HCS.out HG.out (inbS_bd HG.out HBB.out).1 h
                  simpa using this
                have HDN := Aside0.mk (SP.done HCS.out HG.out HA.out HSP.out HPK.out HFIN.out)
                clear hx hw
                obtain ⟨sl, hsl⟩ : ∃ sl : List StepT, sl = stepOf ⟨ap, aa, aw⟩ :: (l ++ [⟨xp, xw⟩]) := ⟨_, rfl⟩
                have HSLV := Aside0.mk hsl
                have HLEN := Aside0.mk (show sl.length ≤ 400 by rw [hsl]; simp; have := HLL.out; omega)
                clear hsl
                go_upto_region 27 with ((with_reducible refine gate_callP (b := .append) (xs := #[.tmp 150, .tmp 152]) rfl ?_); at_builtin; refine Kd.R_append kStep (w0 := WT) (w2.heap.size + 1 + 1) rfl (.tmp 150) (.tmp 152) 83 85 (.agg #[.int .i64 0, .int .i64 0]) 16 rfl Try.underlying83 info85 rfl (by decide) (by omega) (.slice LA (l.length + 1) lc) (stepOf ⟨ap, aa, aw⟩ :: l) ⟨xp, xw⟩ [.int .i64 xp, .int .i64 xw] (fun _ => True) (fun _ => False) rfl (by first | (go_simp; done) | (go_simp; rfl)) (kStep_mkM _ _ _ ⟨xp, xw⟩) (fun _ hk => hk.elim) (fun _ _ => trivial) RT.out (Below.refl _ _) HZT.out (by rw [List.length_cons]; have := HLL.out; omega) ?_; intro v1 w9 hR9 hB9 hG9 hat9; have R9 : Aside0 (kStep.R 85 w9 (w2.heap.size + 1 + 1) (fun _ => True) v1 sl) := ⟨by rw [HSLV.out]; exact hR9⟩; have B9 := Aside0.mk hB9; have N9 := Aside0.mk (NT.out.under hB9 (by have := HZ2.out; omega)); have E9 := Aside0.mk (ET.out.under hB9 (by omega)); have C9 := Aside0.mk (CT.out.under hB9 (by omega)); have P9 := Aside0.mk (PT.out.under hB9 (by have := HZ2.out; omega)); have Y9 := Aside0.mk (YT.out.grownP hG9 (fun he => HYN.out _ he.symm rfl)); have BB9 := Aside0.mk (below_low BT.out hB9 (by have := HZ2.out; omega)); clear hR9 hB9 hG9 hat9; obtain ⟨A9, d9, ev9⟩ := Kd.R_slice R9.out; subst ev9; have q0 := E9.out.c 0 _ rfl; have q1 := E9.out.c 1 _ rfl; have r0 := C9.out.c 0 _ rfl; have r1 := C9.out.c 1 _ rfl; have y1 := Y9.out.c 1 _ rfl)
                obtain ⟨W20, hW20⟩ : ∃ W20, W20 = w9.alloc (.cells #[.bool true, .int .i64 fr2, .slice A9 sl.length d9, .slice none 0 0] 108) := ⟨_, rfl⟩
                have b20 : Below w9.heap.size w9 W20 := by rw [hW20]; exact below_alloc (Below.refl _ _) _
                have N20 := Aside0.mk (N9.out.below b20)
                have P20 := Aside0.mk (P9.out.below b20)
                have B20 := Aside0.mk (below_more BB9.out b20)
                have R20 := Aside0.mk (Kd.R_below (Kd.R_mono (Kd.R_bound R9.out) (ok' := fun k => k < w9.heap.size) (fun k hk => hk.2.2.1)) b20)
                have X20 : Aside0 (Bx W20 w9.heap.size [.bool true, .int .i64 fr2, .slice A9 sl.length d9, .slice none 0 0]) := ⟨by rw [hW20]; exact Bx.new w9 _ 108⟩
                have HW20 := Aside0.mk hW20
                have HZ9 := Aside0.mk (show w.heap.size + 1 + 1 + 1 < w9.heap.size from P9.out.lt)
                clear hW20 b20 z0 z1 q0 q1 r0 r1 y1
                go_upto_region 28 with (fail)
                rw [← HW20.out]
                have n0 := N20.out.c 0 _ rfl; have n1 := N20.out.c 1 _ rfl
                have xl0 := X20.out.lt
                go_wp2_with fail
                (with_reducible refine Calls.mono (implPL_any n ((A0, c0), (A1, c1)) A9 d9 sl _ (HR.out.below B20.out) HG.out (Kd.R_reads' R20.out).2.2) ?_)
                rintro e w21 ⟨v21, rfl, r21, b21⟩
                have P21 := Aside0.mk (P20.out.below b21)
                have B21 := Aside0.mk (below_more B20.out b21)
                have R21 := Aside0.mk (Kd.R_below R20.out b21)
                have X21 := Aside0.mk (X20.out.below b21)
                have RL21 := Aside0.mk r21
                obtain ⟨VA, vc, ev⟩ := Kd.R_slice r21
                subst ev
                obtain ⟨vn, hvn⟩ : ∃ k, k = (plV n sl).length := ⟨_, rfl⟩
                rw [← hvn] at RL21
                rw [← hvn]
                have HZ20 := Aside0.mk (show w9.heap.size < W20.heap.size from xl0)
                obtain ⟨W22, hW22⟩ : ∃ W22, W22 = w21.setCell ⟨w9.heap.size, 3, none⟩ (.slice VA vn vc) := ⟨_, rfl⟩
                have P22 : Aside0 (Bx W22 (w.heap.size + 1 + 1 + 1) [.bool false, .int .i64 0, .slice none 0 0, .slice none 0 0]) := ⟨by rw [hW22]; exact P21.out.far (by have := HZ9.out; omega) _⟩
                have X22 : Aside0 (Bx W22 w9.heap.size [.bool true, .int .i64 fr2, .slice A9 sl.length d9, .slice VA vn vc]) := ⟨by rw [hW22]; exact X21.out.set (i := 3) (by simp) _⟩
                have R22 : Aside0 (kStep.R 85 W22 (w2.heap.size + 1 + 1) (fun k => k < w9.heap.size) (.slice A9 sl.length d9) sl) := ⟨by rw [hW22]; exact Kd.R_far R21.out (fun k hk => by show k ≠ w9.heap.size; omega) _⟩
                have RL22 : Aside0 (kLie.R 111 W22 W20.heap.size (fun _ => True) (.slice VA vn vc) (plV n sl)) := ⟨by rw [hW22]; exact R_apart RL21.out HZ20.out _⟩
                have B22 : Aside0 (Below w.heap.size w W22) := ⟨by rw [hW22]; exact below_set B21.out (show w.heap.size ≤ w9.heap.size by have := HZ9.out; omega)⟩
                have HW22 := Aside0.mk hW22
                have xf3 := X21.out.f 3; have x3 := X21.out.c 3 _ rfl; have xl := X21.out.lt
                clear hvn hW22 r21 b21 n0 n1 xl0
                go_upto_region 29 with (fail)
                rw [← HW22.out]
                clear xf3 x3 xl
                have x0 := X22.out.c 0 _ rfl; have x1 := X22.out.c 1 _ rfl; have x2 := X22.out.c 2 _ rfl; have x3 := X22.out.c 3 _ rfl
                have pl := P22.out.lt
                have p0 := P22.out.c 0 _ rfl; have p1 := P22.out.c 1 _ rfl; have p2 := P22.out.c 2 _ rfl; have p3 := P22.out.c 3 _ rfl
                have pf0 := P22.out.f 0; have pf1 := P22.out.f 1; have pf2 := P22.out.f 2; have pf3 := P22.out.f 3
                go_wp2_with fail
                refine bodyPost_ret (v := .agg #[.bool true, .int .i64 fr2, .slice A9 sl.length d9, .slice VA vn vc]) (by simp [results, Try.results142, go_sem, p0, p1, p2, p3, pf0, pf1, pf2, pf3, pl]) rfl ?_
                rw [HV.out, HDN.out.1, ← HFR.out, ← HSLV.out]
                have hpv : plV n sl = (liesAll n sl).getD [] := by unfold plV; rw [if_pos (by rw [HSLV.out]; exact HDN.out.2)]
                have hz2 := HZ2.out
                have hz9 := HZ9.out
                have hz20 := HZ20.out
                refine ⟨_, _, rfl, ?_, ?_, ?_⟩
                · refine Kd.R_mono (Kd.R_lower (base := w2.heap.size + 1 + 1) ?_ (by omega)) (ok := fun k => k < w9.heap.size) (fun _ _ => trivial)
                  repeat (first | exact R22.out | refine R_apart ?_ (show w.heap.size + 1 + 1 + 1 < w2.heap.size + 1 + 1 by omega) _)
                · show kLie.R 111 _ w.heap.size (fun _ => True) (.slice VA vn vc) ((liesAll n sl).getD [])
                  rw [← hpv]
                  refine Kd.R_lower (base := W20.heap.size) ?_ (by omega)
                  repeat (first | exact RL22.out | refine R_apart ?_ (show w.heap.size + 1 + 1 + 1 < W20.heap.size by omega) _)
                · have hfb := B22.out
                  repeat (first | exact hfb | refine below_set ?_ (show w.heap.size ≤ w.heap.size + 1 + 1 + 1 by omega))
              · have e3 : (xw == bw) = false := by simpa using hw
                have HNF := Aside0.mk (show (⟨xp, xw⟩ : StepT) ≠ stepOf ⟨bp, ba, bw⟩ from fun h => hw (congrArg StepT.way h))
                clear hx hw
                have SPN := Aside0.mk (SP.next HCS.out HG.out HA.out HSP.out HPK.out HNF.out)
                go_wp2_with ((with_reducible refine gate_callP (b := .append) (xs := #[.tmp 150, .tmp 152]) rfl ?_); at_builtin; refine Kd.R_append kStep (w0 := WT) (w2.heap.size + 1 + 1) rfl (.tmp 150) (.tmp 152) 83 85 (.agg #[.int .i64 0, .int .i64 0]) 16 rfl Try.underlying83 info85 rfl (by decide) (by omega) (.slice LA (l.length + 1) lc) (stepOf ⟨ap, aa, aw⟩ :: l) ⟨xp, xw⟩ [.int .i64 xp, .int .i64 xw] (fun _ => True) (fun _ => False) rfl (by first | (go_simp; done) | (go_simp; rfl)) (kStep_mkM _ _ _ ⟨xp, xw⟩) (fun _ hk => hk.elim) (fun _ _ => trivial) RT.out (Below.refl _ _) HZT.out (by rw [List.length_cons]; have := HLL.out; omega) ?_; intro v1 w9 hR9 hB9 hG9 hat9; have R9 := Aside0.mk hR9; have B9 := Aside0.mk hB9; have N9 := Aside0.mk (NT.out.under hB9 (by have := HZ2.out; omega)); have E9 := Aside0.mk (ET.out.under hB9 (by omega)); have C9 := Aside0.mk (CT.out.under hB9 (by omega)); have P9 := Aside0.mk (PT.out.under hB9 (by have := HZ2.out; omega)); have K9 := Aside0.mk (KT.out.move (hB9.block _ (by have := HBM.out; omega))); have Y9 := Aside0.mk (YT.out.grownP hG9 (fun he => HYN.out _ he.symm rfl)); have BB9 := Aside0.mk (below_low BT.out hB9 (by have := HZ2.out; omega)); clear hR9 hB9 hG9 hat9; have q0 := E9.out.c 0 _ rfl; have q1 := E9.out.c 1 _ rfl; have r0 := C9.out.c 0 _ rfl; have r1 := C9.out.c 1 _ rfl; have y1 := Y9.out.c 1 _ rfl)
                go_roundw
                case rel => exact ⟨l ++ [⟨xp, xw⟩], ⟨xp, xw⟩, fr2, rfl, ⟨by rw [HFR.out]; exact SPN.out⟩, ⟨by rw [← List.cons_append]; exact R9.out⟩, N9, E9, C9, P9, K9, BB9⟩
                case measure =>
                  obtain ⟨A9, d9, e9⟩ := Kd.R_slice R9.out
                  subst e9
                  have := HLL.out
                  simp [lenSl]
                  omega
            · have e2 : (xp == bp) = false := by simpa using hx
              have HNF := Aside0.mk (show (⟨xp, xw⟩ : StepT) ≠ stepOf ⟨bp, ba, bw⟩ from fun h => hx (congrArg StepT.piece h))
              clear hx
              have SPN := Aside0.mk (SP.next HCS.out HG.out HA.out HSP.out HPK.out HNF.out)
              go_wp2_with ((with_reducible refine gate_callP (b := .append) (xs := #[.tmp 150, .tmp 152]) rfl ?_); at_builtin; refine Kd.R_append kStep (w0 := WT) (w2.heap.size + 1 + 1) rfl (.tmp 150) (.tmp 152) 83 85 (.agg #[.int .i64 0, .int .i64 0]) 16 rfl Try.underlying83 info85 rfl (by decide) (by omega) (.slice LA (l.length + 1) lc) (stepOf ⟨ap, aa, aw⟩ :: l) ⟨xp, xw⟩ [.int .i64 xp, .int .i64 xw] (fun _ => True) (fun _ => False) rfl (by first | (go_simp; done) | (go_simp; rfl)) (kStep_mkM _ _ _ ⟨xp, xw⟩) (fun _ hk => hk.elim) (fun _ _ => trivial) RT.out (Below.refl _ _) HZT.out (by rw [List.length_cons]; have := HLL.out; omega) ?_; intro v1 w9 hR9 hB9 hG9 hat9; have R9 := Aside0.mk hR9; have B9 := Aside0.mk hB9; have N9 := Aside0.mk (NT.out.under hB9 (by have := HZ2.out; omega)); have E9 := Aside0.mk (ET.out.under hB9 (by omega)); have C9 := Aside0.mk (CT.out.under hB9 (by omega)); have P9 := Aside0.mk (PT.out.under hB9 (by have := HZ2.out; omega)); have K9 := Aside0.mk (KT.out.move (hB9.block _ (by have := HBM.out; omega))); have Y9 := Aside0.mk (YT.out.grownP hG9 (fun he => HYN.out _ he.symm rfl)); have BB9 := Aside0.mk (below_low BT.out hB9 (by have := HZ2.out; omega)); clear hR9 hB9 hG9 hat9; have q0 := E9.out.c 0 _ rfl; have q1 := E9.out.c 1 _ rfl; have r0 := C9.out.c 0 _ rfl; have r1 := C9.out.c 1 _ rfl; have y1 := Y9.out.c 1 _ rfl)
              go_roundw
              case rel => exact ⟨l ++ [⟨xp, xw⟩], ⟨xp, xw⟩, fr2, rfl, ⟨by rw [HFR.out]; exact SPN.out⟩, ⟨by rw [← List.cons_append]; exact R9.out⟩, N9, E9, C9, P9, K9, BB9⟩
              case measure =>
                obtain ⟨A9, d9, e9⟩ := Kd.R_slice R9.out
                subst e9
                have := HLL.out
                simp [lenSl]
                omega
end Go.Proofs.Ytckcffjnffcjcaa
namespace Go.Proofs.Ytckcffjnffcjcaa
open Go.RowKit Go.Proofs.YtckcffjnffcjcaaW.PrintWords
theorem shortestV_bad {n : NetT} {a b : SpotT} (h : (spotOkB n a && spotB n b) = false) : shortestV n a b = noPath := by unfold shortestV; rw [if_neg (by rw [h]; simp)]
theorem shortestV_good {n : NetT} {a b : SpotT} (h : (spotOkB n a && spotB n b) = true) : shortestV n a b = shortT n a b false := by unfold shortestV shortV shortT; rw [if_pos h]; rfl
theorem PathR.no {w w' : World} (hb : Below w.heap.size w w') : PathR w w' (.returned (.agg #[.bool false, .int .i64 0, .slice none 0 0, .slice none 0 0])) noPath := ⟨_, _, rfl, Kd.R_nil .., Kd.R_nil .., hb⟩
set_option maxRecDepth 100000 in
set_option maxHeartbeats 16000000 in
theorem implShortest_any (n : NetT) (u : (Option Addr × Nat) × (Option Addr × Nat)) (a b : SpotT) (w : World) (hr : RdNet 67 w u n) (hf : NetFits n) :
    Calls Try.prog 90 #[.agg #[.slice u.1.1 n.pieces.length u.1.2, .slice u.2.1 n.joints.length u.2.2], .agg #[.int .i64 a.piece, .int .i64 a.at_, .int .i64 a.way], .agg #[.int .i64 b.piece, .int .i64 b.at_, .int .i64 b.way]] w
      fun e w' => PathR w w' e (shortestV n a b) := by
  obtain ⟨⟨A0, c0⟩, ⟨A1, c1⟩⟩ := u
  have HR := Aside0.mk hr
  have HF := Aside0.mk hf
  obtain ⟨ga, hga⟩ : ∃ g, g = netGood n := ⟨_, rfl⟩
  obtain ⟨oa, hoa⟩ : ∃ g, g = spotB n a := ⟨_, rfl⟩
  obtain ⟨ob, hob⟩ : ∃ g, g = spotB n b := ⟨_, rfl⟩
  have HGD := Aside0.mk hga.symm
  have HOA := Aside0.mk hoa.symm
  have HOB := Aside0.mk hob.symm
  obtain ⟨ap, aa, aw⟩ := a
  obtain ⟨bp, ba, bw⟩ := b
  obtain ⟨W0, hW0, hN, hS, hT, fb0⟩ := box3T w [.slice A0 n.pieces.length c0, .slice A1 n.joints.length c1] [.int .i64 ap, .int .i64 aa, .int .i64 aw] [.int .i64 bp, .int .i64 ba, .int .i64 bw] 35 38 38
  have hz0 : W0.heap.size = w.heap.size + 1 + 1 + 1 := by rw [hW0]; simp
  obtain ⟨W1, hW1⟩ : ∃ W1, W1 = W0.alloc (.cells #[.bool false, .int .i64 0, .slice none 0 0, .slice none 0 0] 108) := ⟨_, rfl⟩
  have FB := Aside0.mk (show Below w.heap.size w W1 by rw [hW1]; exact below_alloc fb0 _)
  have HN : Aside0 (Bx W1 w.heap.size [.slice A0 n.pieces.length c0, .slice A1 n.joints.length c1]) := ⟨by rw [hW1]; exact hN.alloc _⟩
  have HS : Aside0 (Bx W1 (w.heap.size + 1) [.int .i64 ap, .int .i64 aa, .int .i64 aw]) := ⟨by rw [hW1]; exact hS.alloc _⟩
  have HT : Aside0 (Bx W1 (w.heap.size + 1 + 1) [.int .i64 bp, .int .i64 ba, .int .i64 bw]) := ⟨by rw [hW1]; exact hT.alloc _⟩
  have HP : Aside0 (Bx W1 (w.heap.size + 1 + 1 + 1) [.bool false, .int .i64 0, .slice none 0 0, .slice none 0 0]) := ⟨by rw [hW1, ← hz0]; exact Bx.new W0 _ 108⟩
  have HW : Aside0 (W1 = (((w.alloc (.cells #[.slice A0 n.pieces.length c0, .slice A1 n.joints.length c1] 35)).alloc (.cells #[.int .i64 ap, .int .i64 aa, .int .i64 aw] 38)).alloc (.cells #[.int .i64 bp, .int .i64 ba, .int .i64 bw] 38)).alloc (.cells #[.bool false, .int .i64 0, .slice none 0 0, .slice none 0 0] 108)) := ⟨by rw [hW1, hW0]⟩
  clear hr hf hga hoa hob hW0 hN hS hT fb0 hz0 hW1
  go_enter Try.func90, Try.ntmps90
  go_upto_region 1 with (fail)
  rw [← HW.out]
  have n0 := HN.out.c 0 _ rfl; have n1 := HN.out.c 1 _ rfl
  go_wp2_with fail
  (with_reducible refine Calls.mono (good_any n ((A0, c0), (A1, c1)) _ (HR.out.below FB.out) HF.out) ?_)
  rintro e w2 ⟨rfl, b2⟩
  rw [HGD.out]
  have N2 := Aside0.mk (HN.out.below b2)
  have S2 := Aside0.mk (HS.out.below b2)
  have T2 := Aside0.mk (HT.out.below b2)
  have P2 := Aside0.mk (HP.out.below b2)
  have B2 := Aside0.mk (below_more FB.out b2)
  clear n0 n1 b2
  cases ga with
  | false =>
    have HV := Aside0.mk (shortestV_bad (n := n) (a := ⟨ap, aa, aw⟩) (b := ⟨bp, ba, bw⟩) (by unfold spotOkB; rw [HGD.out]; rfl))
    have pl := P2.out.lt
    have p0 := P2.out.c 0 _ rfl; have p1 := P2.out.c 1 _ rfl; have p2 := P2.out.c 2 _ rfl; have p3 := P2.out.c 3 _ rfl
    have pf0 := P2.out.f 0; have pf1 := P2.out.f 1; have pf2 := P2.out.f 2; have pf3 := P2.out.f 3
    go_wp2_with fail
    refine bodyPost_ret (v := .agg #[.bool false, .int .i64 0, .slice none 0 0, .slice none 0 0]) (by simp [results, Try.results90, go_sem, p0, p1, p2, p3, pf0, pf1, pf2, pf3, pl]) rfl ?_
    rw [HV.out]
    refine PathR.no ?_
    have hfb := B2.out
    repeat (first | exact hfb | refine below_set ?_ (show w.heap.size ≤ w.heap.size + 1 + 1 + 1 by omega))
  | true =>
    have n0 := N2.out.c 0 _ rfl; have n1 := N2.out.c 1 _ rfl
    have s0 := S2.out.c 0 _ rfl; have s1 := S2.out.c 1 _ rfl; have s2 := S2.out.c 2 _ rfl
    go_wp2_with fail
    (with_reducible refine Calls.mono (spotOk_any n ((A0, c0), (A1, c1)) ⟨ap, aa, aw⟩ _ (HR.out.below B2.out)) ?_)
    rintro e w3 ⟨rfl, b3⟩
    rw [HOA.out]
    have N3 := Aside0.mk (N2.out.below b3)
    have S3 := Aside0.mk (S2.out.below b3)
    have T3 := Aside0.mk (T2.out.below b3)
    have P3 := Aside0.mk (P2.out.below b3)
    have B3 := Aside0.mk (below_more B2.out b3)
    clear n0 n1 s0 s1 s2 b3
    cases oa with
    | false =>
      have HV := Aside0.mk (shortestV_bad (n := n) (a := ⟨ap, aa, aw⟩) (b := ⟨bp, ba, bw⟩) (by unfold spotOkB; rw [HGD.out, HOA.out]; rfl))
      have pl := P3.out.lt
      have p0 := P3.out.c 0 _ rfl; have p1 := P3.out.c 1 _ rfl; have p2 := P3.out.c 2 _ rfl; have p3 := P3.out.c 3 _ rfl
      have pf0 := P3.out.f 0; have pf1 := P3.out.f 1; have pf2 := P3.out.f 2; have pf3 := P3.out.f 3
      go_wp2_with fail
      refine bodyPost_ret (v := .agg #[.bool false, .int .i64 0, .slice none 0 0, .slice none 0 0]) (by simp [results, Try.results90, go_sem, p0, p1, p2, p3, pf0, pf1, pf2, pf3, pl]) rfl ?_
      rw [HV.out]
      refine PathR.no ?_
      have hfb := B3.out
      repeat (first | exact hfb | refine below_set ?_ (show w.heap.size ≤ w.heap.size + 1 + 1 + 1 by omega))
    | true =>
      have n0 := N3.out.c 0 _ rfl; have n1 := N3.out.c 1 _ rfl
      have t0 := T3.out.c 0 _ rfl; have t1 := T3.out.c 1 _ rfl; have t2 := T3.out.c 2 _ rfl
      go_wp2_with fail
      (with_reducible refine Calls.mono (spotOk_any n ((A0, c0), (A1, c1)) ⟨bp, ba, bw⟩ _ (HR.out.below B3.out)) ?_)
      rintro e w4 ⟨rfl, b4⟩
      rw [HOB.out]
      have N4 := Aside0.mk (N3.out.below b4)
      have S4 := Aside0.mk (S3.out.below b4)
      have T4 := Aside0.mk (T3.out.below b4)
      have P4 := Aside0.mk (P3.out.below b4)
      have B4 := Aside0.mk (below_more B3.out b4)
      clear n0 n1 t0 t1 t2 b4
      cases ob with
      | false =>
        have HV := Aside0.mk (shortestV_bad (n := n) (a := ⟨ap, aa, aw⟩) (b := ⟨bp, ba, bw⟩) (by rw [HOB.out]; simp))
        have pl := P4.out.lt
        have p0 := P4.out.c 0 _ rfl; have p1 := P4.out.c 1 _ rfl; have p2 := P4.out.c 2 _ rfl; have p3 := P4.out.c 3 _ rfl
        have pf0 := P4.out.f 0; have pf1 := P4.out.f 1; have pf2 := P4.out.f 2; have pf3 := P4.out.f 3
        go_wp2_with fail
        refine bodyPost_ret (v := .agg #[.bool false, .int .i64 0, .slice none 0 0, .slice none 0 0]) (by simp [results, Try.results90, go_sem, p0, p1, p2, p3, pf0, pf1, pf2, pf3, pl]) rfl ?_
        rw [HV.out]
        refine PathR.no ?_
        have hfb := B4.out
        repeat (first | exact hfb | refine below_set ?_ (show w.heap.size ≤ w.heap.size + 1 + 1 + 1 by omega))
      | true =>
        have HV := Aside0.mk (shortestV_good (n := n) (a := ⟨ap, aa, aw⟩) (b := ⟨bp, ba, bw⟩) (by unfold spotOkB; rw [HGD.out, HOA.out, HOB.out]; rfl))
        have n0 := N4.out.c 0 _ rfl; have n1 := N4.out.c 1 _ rfl
        have s0 := S4.out.c 0 _ rfl; have s1 := S4.out.c 1 _ rfl; have s2 := S4.out.c 2 _ rfl
        have t0 := T4.out.c 0 _ rfl; have t1 := T4.out.c 1 _ rfl; have t2 := T4.out.c 2 _ rfl
        go_wp2_with fail
        (with_reducible refine Calls.mono (shortest_any n ((A0, c0), (A1, c1)) ⟨ap, aa, aw⟩ ⟨bp, ba, bw⟩ false _ (HR.out.below B4.out) (Good.of HGD.out) HOA.out HOB.out) ?_)
        rintro e w5 ⟨sv, lv, rfl, hsr, hlr, b5⟩
        have P5 := Aside0.mk (P4.out.below b5)
        have B5 := Aside0.mk (below_more B4.out b5)
        have HZ4 := Aside0.mk (show w.heap.size + 1 + 1 + 1 < w4.heap.size from P4.out.lt)
        have pl := P5.out.lt
        have p0 := P5.out.c 0 _ rfl; have p1 := P5.out.c 1 _ rfl; have p2 := P5.out.c 2 _ rfl; have p3 := P5.out.c 3 _ rfl
        have pf0 := P5.out.f 0; have pf1 := P5.out.f 1; have pf2 := P5.out.f 2; have pf3 := P5.out.f 3
        obtain ⟨p, hp⟩ : ∃ p, p = shortT n ⟨ap, aa, aw⟩ ⟨bp, ba, bw⟩ false := ⟨_, rfl⟩
        rw [← hp] at hsr hlr HV
        rw [← hp]
        have HSR := Aside0.mk hsr
        have HLR := Aside0.mk hlr
        obtain ⟨SA, sc, es⟩ := Kd.R_slice hsr
        obtain ⟨LA, lc, el⟩ := Kd.R_slice hlr
        subst es
        subst el
        clear hp hsr hlr b5
        go_wp2_with fail
        refine bodyPost_ret (v := .agg #[.bool p.ok, .int .i64 p.far, .slice SA p.steps.length sc, .slice LA p.lies.length lc]) (by simp [results, Try.results90, go_sem, p0, p1, p2, p3, pf0, pf1, pf2, pf3, pl]) rfl ?_
        rw [HV.out]
        have hz4 := HZ4.out
        refine ⟨_, _, rfl, ?_, ?_, ?_⟩
        · refine Kd.R_lower (base := w4.heap.size) ?_ (by omega)
          repeat (first | exact HSR.out | refine R_apart ?_ (show w.heap.size + 1 + 1 + 1 < w4.heap.size by omega) _)
        · refine Kd.R_lower (base := w4.heap.size) ?_ (by omega)
          repeat (first | exact HLR.out | refine R_apart ?_ (show w.heap.size + 1 + 1 + 1 < w4.heap.size by omega) _)
        · have hfb := B5.out
          repeat (first | exact hfb | refine below_set ?_ (show w.heap.size ≤ w.heap.size + 1 + 1 + 1 by omega))
end Go.Proofs.Ytckcffjnffcjcaa
