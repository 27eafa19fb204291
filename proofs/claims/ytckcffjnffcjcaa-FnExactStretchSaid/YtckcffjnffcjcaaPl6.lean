/- Contract of the reference's l4lies. Conditions: the net is good, the steps are steps of it. -/
import Derived.Test.YtckcffjnffcjcaaPl3
import Derived.Test.YtckcffjnffcjcaaCut0
set_option linter.unusedVariables false
set_option linter.unusedSimpArgs false
namespace Go.Proofs.Ytckcffjnffcjcaa
open Go.RowKit Go.Proofs.YtckcffjnffcjcaaW.PrintWords
theorem head_look' (s : StepT) : headE ⟨s.piece, 0, s.way⟩ = lookS s := rfl
theorem head_begin {n : NetT} {t : StepT} (h : stepB n t = true) : headE ⟨t.piece, 0, -t.way⟩ = beginS t := by
  have := stepB_iff.1 h
  obtain ⟨p, w⟩ := t
  unfold headE beginS
  simp only at this ⊢
  rcases this.2.2 with rfl | rfl <;> rfl
theorem met_iff {l : List EndT} {b : EndT} : l.any (fun e => decide (e = b)) = true ↔ b ∈ l := by
  rw [List.any_eq_true]
  constructor
  · rintro ⟨x, hx, h⟩
    have := of_decide_eq_true h
    rwa [← this]
  · intro h; exact ⟨b, h, by simp⟩
theorem stepLie_met {n : NetT} {s t : StepT} {b : EndT} (hb : beginS t = b) (h : (acrossE n (lookS s)).any (fun e => decide (e = b)) = true) : stepLie n s t = if (jOf n (lookS s)).kind = 3 then some (some ⟨(iOf n (lookS s) : Int), (kOf n (lookS s) : Int) + (kOf n b : Int)⟩) else some none := by
  subst hb
  unfold stepLie
  rw [if_pos (met_iff.1 h)]
theorem stepLie_unmet {n : NetT} {s t : StepT} {b : EndT} (hb : beginS t = b) (h : (acrossE n (lookS s)).any (fun e => decide (e = b)) = false) : stepLie n s t = none := by
  subst hb
  unfold stepLie
  rw [if_neg]
  intro hm
  rw [met_iff.2 hm] at h; cases h
theorem addLie_bad {out : List LieT} {x : LieT} {q : Nat} (hq : q < out.length) (h1 : (out.getD q default).joint = x.joint) (h2 : (out.getD q default).lie ≠ x.lie) : addLie out x = none := by
  unfold addLie
  rw [if_pos]
  rw [List.any_eq_true]
  exact ⟨_, getD_mem out q hq, decide_eq_true ⟨h1, h2⟩⟩
theorem addLie_end {out : List LieT} {x : LieT} (h : ∀ q, q < out.length → ¬ ((out.getD q default).joint = x.joint ∧ (out.getD q default).lie ≠ x.lie)) :
    addLie out x = if out.any (fun y => decide (y.joint = x.joint)) = true then some out else some (out ++ [x]) := by
  unfold addLie
  rw [if_neg]
  rw [List.any_eq_true]
  rintro ⟨y, hy, hd⟩
  obtain ⟨q, hq, rfl⟩ := List.mem_iff_getElem.1 hy
  have := h q hq
  rw [getD_at out q hq] at this
  exact this (of_decide_eq_true hd)
set_option maxRecDepth 100000 in
set_option maxHeartbeats 8000000 in
theorem specPL_any (n : NetT) (u : (Option Addr × Nat) × (Option Addr × Nat)) (A : Option Addr) (c : Nat) (l : List StepT) (w : World) (hr : RdNet 67 w u n) (hg : Good n) (hC : Kd.C kStep w A l.length l) (hs : stepsB n l = true) :
    Calls Try.prog 146 #[.agg #[.slice u.1.1 n.pieces.length u.1.2, .slice u.2.1 n.joints.length u.2.2], .slice A l.length c] w
      fun e w' => ∃ v, e = .returned (.tuple #[v, .bool (plOk n l)]) ∧ Kd.R kLie 111 w' w.heap.size (fun _ => True) v (plV n l) ∧ Below w.heap.size w w' := by
  have HR := Aside0.mk hr
  have HG := Aside0.mk hg
  have HC := Aside0.mk hC
  have HSB := Aside0.mk hs
  have hjm := hr.2.1.2.1
  have hml : l.length ≤ 400 := by
    have := hs
    unfold stepsB at this
    simp only [Bool.and_eq_true, decide_eq_true_eq] at this
    exact this.1
  have HT1 := Aside0.mk (show ∀ k, k < l.length → stepB n (l.getD k default) = true from fun k hk => by
    have := hs
    unfold stepsB at this
    simp only [Bool.and_eq_true, List.all_eq_true] at this
    exact this.2 _ (getD_mem l k hk))
  obtain ⟨⟨A0, c0⟩, ⟨A1, c1⟩⟩ := u
  obtain ⟨W0, hW0⟩ : ∃ W0 : World, W0 = w.alloc (.cells #[.slice A0 n.pieces.length c0, .slice A1 n.joints.length c1] 35) := ⟨_, rfl⟩
  have N0 : Aside0 (Bx W0 w.heap.size [.slice A0 n.pieces.length c0, .slice A1 n.joints.length c1]) := ⟨by rw [hW0]; exact Bx.new w _ 35⟩
  have B0 : Aside0 (Below w.heap.size w W0) := ⟨by rw [hW0]; exact below_alloc (Below.refl _ _) _⟩
  have Z0 : Aside0 (W0.heap.size = w.heap.size + 1) := ⟨by rw [hW0]; simp⟩
  have HW0 := Aside0.mk hW0
  clear hr hg hC hs hW0
  go_enter Try.func146, Try.ntmps146
  go_wp2_with fail
  rw [← HW0.out]
  go_loopw [6, 7] (fun v6 v7 wr => ∃ (i : Nat) (OA : Option Addr) (oc : Nat) (out : List LieT), v6 = .slice OA out.length oc ∧ v7 = .int .i64 (i : Int) ∧ i ≤ l.length + 1 ∧ Aside0 (PI n l i out) ∧ Aside0 (Kd.R kLie 111 wr W0.heap.size (fun _ => True) (.slice OA out.length oc) out) ∧ Aside0 (Bx wr w.heap.size [.slice A0 n.pieces.length c0, .slice A1 n.joints.length c1]) ∧ Aside0 (Below w.heap.size w wr) ∧ W0.heap.size ≤ wr.heap.size) (fun _ v7 _ => l.length + 1 - (intOf v7).toNat)
  case atStart => exact ⟨1, none, 0, [], rfl, rfl, by omega, ⟨PI.start n l⟩, ⟨Kd.R_nil ..⟩, N0, B0, Nat.le_refl _⟩
  case round =>
    obtain ⟨i, OA, oc, out, rfl, rfl, hi, HP, HO, N1, B1, hsz1⟩ := hrel
    obtain ⟨WO, hWO⟩ : ∃ WO : World, WO = wr := ⟨_, rfl⟩
    subst hWO
    by_cases hlt : i < l.length
    · obtain ⟨k, hk⟩ : ∃ k, i = k + 1 := ⟨i - 1, by have := HP.out.1; omega⟩
      have hkl : k < l.length := by omega
      have HK := Aside0.mk hk
      obtain ⟨ad0, e0, y0, y1⟩ := at_Step HC.out k hkl
      obtain ⟨ad0', e0', x0, x1⟩ := at_Step HC.out i hlt
      subst e0
      injection e0' with e0'
      subst e0'
      replace y0 := pw_cell_below B1.out y0
      replace y1 := pw_cell_below B1.out y1
      replace x0 := pw_cell_below B1.out x0
      replace x1 := pw_cell_below B1.out x1
      have hst := HT1.out k hkl
      have htt := HT1.out i hlt
      obtain ⟨⟨sp, sw⟩, hs⟩ : ∃ s, s = l.getD k default := ⟨_, rfl⟩
      obtain ⟨⟨tp, tw⟩, ht⟩ : ∃ t, t = l.getD i default := ⟨_, rfl⟩
      rw [← hs] at y0 y1 hst
      rw [← ht] at x0 x1 htt
      have HSL0 := Aside0.mk (show stepLie n (l.getD (i - 1) default) (l.getD i default) = stepLie n ⟨sp, sw⟩ ⟨tp, tw⟩ by rw [hs, ht, hk]; rfl)
      have htw := stepB_iff.1 htt
      simp only at htw
      obtain ⟨⟨ap, as_⟩, ha⟩ : ∃ e, e = lookS ⟨sp, sw⟩ := ⟨_, rfl⟩
      obtain ⟨⟨bp, bs⟩, hb⟩ : ∃ e, e = beginS ⟨tp, tw⟩ := ⟨_, rfl⟩
      have HA := Aside0.mk (show headE ⟨sp, 0, sw⟩ = ⟨ap, as_⟩ from (head_look' ⟨sp, sw⟩).trans ha.symm)
      have HB := Aside0.mk (show headE ⟨tp, 0, -tw⟩ = ⟨bp, bs⟩ from (head_begin htt).trans hb.symm)
      have HAV : Aside0 ((Value.agg #[.int .i64 (headE ⟨sp, 0, sw⟩).piece, .int .i64 (headE ⟨sp, 0, sw⟩).side]) = (Value.agg #[.int .i64 ap, .int .i64 as_])) := ⟨by rw [HA.out]⟩
      have HBV : Aside0 ((Value.agg #[.int .i64 (headE ⟨tp, 0, -tw⟩).piece, .int .i64 (headE ⟨tp, 0, -tw⟩).side]) = (Value.agg #[.int .i64 bp, .int .i64 bs])) := ⟨by rw [HB.out]⟩
      have hea := lookS_ok hst
      have heb := beginS_ok htt
      rw [← ha] at hea
      rw [← hb] at heb
      obtain ⟨ia, qa, hata⟩ := HG.out.at_ hea
      obtain ⟨ib, qb, hatb⟩ := HG.out.at_ heb
      have HATA := Aside0.mk hata
      have HATB := Aside0.mk hatb
      have HLA := Aside0.mk ha.symm
      have HLB := Aside0.mk hb.symm
      have hneg : IntKind.i64.wrap (-tw) = -tw := wrap64 (by omega) (by omega)
      have hJ2 : IntKind.i64.wrap ((i : Int) - 1) = (k : Int) := by rw [wrap64 (by omega) (by omega)]; omega
      have hk0 : (0 : Int) ≤ (k : Int) := by omega
      have hk1 : (k : Int) < (l.length : Int) := by omega
      have HY0 := Aside0.mk y0; have HY1 := Aside0.mk y1; have HX0 := Aside0.mk x0; have HX1 := Aside0.mk x1
      clear hs ht ha hb hst htt htw hata hatb hea heb hk hkl
      go_wp2_with fail
      have HShA : Aside0 (∀ W, Below WO.heap.size WO W → (Below WO.heap.size WO W ∧ W.cell? (ad0.add (k * 2)) = some (.int .i64 sp) ∧ W.cell? ⟨(ad0.add (k * 2)).block, (ad0.add (k * 2)).off + 1, none⟩ = some (.int .i64 sw))) := ⟨fun W hb => ⟨hb, pw_cell_below hb HY0.out, pw_cell_below hb HY1.out⟩⟩
      go_cut [8] (fun sv W => ∃ bn, sv = .pointer (some ⟨bn, 0, none⟩) ∧ Aside0 (Below WO.heap.size WO W) ∧ Aside0 (Bx W bn [.int .i64 ap, .int .i64 as_]))
      case first =>
        go_region_held3 (fun W => Below WO.heap.size WO W ∧ W.cell? (ad0.add (k * 2)) = some (.int .i64 sp) ∧ W.cell? ⟨(ad0.add (k * 2)).block, (ad0.add (k * 2)).off + 1, none⟩ = some (.int .i64 sw))
          (first | (with_reducible assumption) | (with_reducible exact HShA.out _ (by with_reducible assumption)) | (with_reducible exact HShA.out _ (by repeat (first | (with_reducible assumption) | (with_reducible refine below_set ?_ (Below.size (by with_reducible assumption))) | (with_reducible refine below_set ?_ (Nat.le_refl _)) | (with_reducible refine below_set ?_ (by omega)) | (with_reducible refine below_alloc ?_ _) | (with_reducible exact Below.refl _ _) | (with_reducible refine below_drew ?_)))))
          (first
            | (go_at_call 157; go_split_ands; (with_reducible refine Calls.mono (l3head_any ⟨sp, 0, sw⟩ _) ?_); rintro e hAw ⟨rfl, b3⟩; rw [HAV.out]; have hAq : Below WO.heap.size WO hAw := below_more (by assumption) b3; have hAz := hAq.size; (first | (with_reducible have hAX := Aside0.mk ((Bx.new _ [.int .i64 0, .int .i64 0] 67).below b3)) | (with_reducible have hAX := Aside0.mk ((Bx.drew (Bx.new _ [.int .i64 0, .int .i64 0] 67)).below b3)) | skip); (first | (have hAx0 := hAX.out.c 0 _ rfl; have hAxf0 := hAX.out.f 0; have hAx1 := hAX.out.c 1 _ rfl; have hAxf1 := hAX.out.f 1; have hAxl := hAX.out.lt) | skip); have hAQ := Aside0.mk hAq; clear b3))
        all_goals
          try go_wp2_with fail
          go_meet
          case rel =>
            first
              | (with_reducible refine ⟨_, rfl, ⟨below_alloc hAQ.out _⟩, ⟨Bx.new' _ _ _ rfl⟩⟩; done)
              | (refine ⟨_, rfl, ⟨?_⟩, ⟨?_⟩⟩
                 · repeat (first | (with_reducible exact hAQ.out) | (with_reducible refine below_set ?_ (Below.size (by with_reducible assumption))) | (with_reducible refine below_set ?_ (Nat.le_refl _)) | (with_reducible refine below_set ?_ (by omega)) | (with_reducible refine below_alloc ?_ _))
                 · exact ((hAX.out.set (i := 0) (by simp) _).set (i := 1) (by simp) _))
      case rest =>
      obtain ⟨hAb, rfl, hAB, XA⟩ := hcut
      obtain ⟨WhA, hWhA⟩ : ∃ WhA, WhA = wc := ⟨_, rfl⟩
      subst hWhA
      have NA := Aside0.mk (N1.out.below hAB.out)
      have BA := Aside0.mk (below_more B1.out hAB.out)
      have HY2 := Aside0.mk (pw_cell_below hAB.out HX0.out); have HY3 := Aside0.mk (pw_cell_below hAB.out HX1.out)
      have x20 := HY2.out; have x21 := HY3.out
      clear y0 y1 x0 x1
      go_wp2_with fail
      have HShB : Aside0 (∀ W, Below WhA.heap.size WhA W → (Below WhA.heap.size WhA W ∧ W.cell? (ad0.add (i * 2)) = some (.int .i64 tp) ∧ W.cell? ⟨(ad0.add (i * 2)).block, (ad0.add (i * 2)).off + 1, none⟩ = some (.int .i64 tw))) := ⟨fun W hb => ⟨hb, pw_cell_below hb HY2.out, pw_cell_below hb HY3.out⟩⟩
      go_cut [9] (fun sv W => ∃ bn, sv = .pointer (some ⟨bn, 0, none⟩) ∧ Aside0 (Below WhA.heap.size WhA W) ∧ Aside0 (Bx W bn [.int .i64 bp, .int .i64 bs]))
      case first =>
        go_region_held3 (fun W => Below WhA.heap.size WhA W ∧ W.cell? (ad0.add (i * 2)) = some (.int .i64 tp) ∧ W.cell? ⟨(ad0.add (i * 2)).block, (ad0.add (i * 2)).off + 1, none⟩ = some (.int .i64 tw))
          (first | (with_reducible assumption) | (with_reducible exact HShB.out _ (by with_reducible assumption)) | (with_reducible exact HShB.out _ (by repeat (first | (with_reducible assumption) | (with_reducible refine below_set ?_ (Below.size (by with_reducible assumption))) | (with_reducible refine below_set ?_ (Nat.le_refl _)) | (with_reducible refine below_set ?_ (by omega)) | (with_reducible refine below_alloc ?_ _) | (with_reducible exact Below.refl _ _) | (with_reducible refine below_drew ?_)))))
          (first
            | (go_at_call 157; go_split_ands; (with_reducible refine Calls.mono (l3head_any ⟨tp, 0, -tw⟩ _) ?_); rintro e hBw ⟨rfl, b3⟩; rw [HBV.out]; have hBq : Below WhA.heap.size WhA hBw := below_more (by assumption) b3; have hBz := hBq.size; (first | (with_reducible have hBX := Aside0.mk ((Bx.new _ [.int .i64 0, .int .i64 0] 67).below b3)) | (with_reducible have hBX := Aside0.mk ((Bx.drew (Bx.new _ [.int .i64 0, .int .i64 0] 67)).below b3)) | skip); (first | (have hBx0 := hBX.out.c 0 _ rfl; have hBxf0 := hBX.out.f 0; have hBx1 := hBX.out.c 1 _ rfl; have hBxf1 := hBX.out.f 1; have hBxl := hBX.out.lt) | skip); have hBQ := Aside0.mk hBq; clear b3))
        all_goals
          try go_wp2_with fail
          go_meet
          case rel =>
            first
              | (with_reducible refine ⟨_, rfl, ⟨below_alloc hBQ.out _⟩, ⟨Bx.new' _ _ _ rfl⟩⟩; done)
              | (refine ⟨_, rfl, ⟨?_⟩, ⟨?_⟩⟩
                 · repeat (first | (with_reducible exact hBQ.out) | (with_reducible refine below_set ?_ (Below.size (by with_reducible assumption))) | (with_reducible refine below_set ?_ (Nat.le_refl _)) | (with_reducible refine below_set ?_ (by omega)) | (with_reducible refine below_alloc ?_ _))
                 · exact ((hBX.out.set (i := 0) (by simp) _).set (i := 1) (by simp) _))
      case rest =>
      obtain ⟨hBb, rfl, hBB, XB⟩ := hcut
      obtain ⟨WhB, hWhB⟩ : ∃ WhB, WhB = wc := ⟨_, rfl⟩
      subst hWhB
      have NB := Aside0.mk (NA.out.below hBB.out)
      have BB := Aside0.mk (below_more BA.out hBB.out)
      have XA2 := Aside0.mk (XA.out.below hBB.out)
      have OB := Aside0.mk (Kd.R_below (Kd.R_below HO.out hAB.out) hBB.out)
      clear x20 x21
      have n0 := NB.out.c 0 _ rfl; have n1 := NB.out.c 1 _ rfl; have a0 := XA2.out.c 0 _ rfl; have a1 := XA2.out.c 1 _ rfl
      go_wp2_with fail
      (with_reducible refine Calls.mono (l1at_any n ((A0, c0), (A1, c1)) ⟨ap, as_⟩ _ (HR.out.below BB.out)) ?_)
      rintro e w5 ⟨rfl, b5⟩
      simp only [HATA.out.eq]
      have N5 := Aside0.mk (NB.out.below b5)
      have B5 := Aside0.mk (below_more BB.out b5)
      have XB5 := Aside0.mk (XB.out.below b5)
      have O5 := Aside0.mk (Kd.R_below OB.out b5)
      have Z5 := Aside0.mk (show W0.heap.size ≤ w5.heap.size by have h1 := hAB.out.size; have h2 := hBB.out.size; have h3 := b5.size; omega)
      clear b5 n0 n1 a0 a1 XA XA2 XB OB NB
      have hia := HATA.out.hi
      obtain ⟨hk1', hk2', hk3', hk4'⟩ := HG.out.kindAt hia
      have hqa := HATA.out.hq
      obtain ⟨adj, A2, c2, ej, j0, j1, j2, m0, g0⟩ := at_Joint (HR.out.below B5.out).2.1 ia hia
      simp only at ej
      subst ej
      obtain ⟨j, hj⟩ : ∃ j, j = n.joints.getD ia default := ⟨_, rfl⟩
      rw [← hj] at j0 j1 j2 m0 g0 hk1' hk2' hk3' hqa
      have HJ := Aside0.mk hj
      have HCJ := Aside0.mk g0
      clear hj m0 g0 hk4'
      have hi0 : (0 : Int) ≤ (ia : Int) := by omega
      have hi1 : (ia : Int) < (n.joints.length : Int) := by omega
      have n0 := N5.out.c 0 _ rfl; have n1 := N5.out.c 1 _ rfl
      go_wp2_with fail
      (with_reducible refine Calls.mono (l1across_any j A2 c2 qa _ HCJ.out hk3' hqa hk2') ?_)
      rintro e w6 ⟨v6, rfl, r6, b6⟩
      obtain ⟨E, hE⟩ : ∃ E, E = acrossJ j qa := ⟨_, rfl⟩
      rw [← hE] at r6
      have HE := Aside0.mk (show E = acrossE n ⟨ap, as_⟩ by rw [hE]; unfold acrossE; rw [HATA.out.j, HATA.out.k, HJ.out])
      obtain ⟨A4, c4, e4, hc4, hC4⟩ := Kd.R_reads r6
      subst e4
      have HC4 := Aside0.mk hC4
      have hm4 := hC4.2.1
      have N6 := Aside0.mk (N5.out.below b6)
      have B6 := Aside0.mk (below_more B5.out b6)
      have XB6 := Aside0.mk (XB5.out.below b6)
      have O6 := Aside0.mk (Kd.R_below O5.out b6)
      have Z6 := Aside0.mk (show W0.heap.size ≤ w6.heap.size by have h1 := Z5.out; have h3 := b6.size; omega)
      have J60 := Aside0.mk (pw_cell_below b6 j0)
      clear b6 n0 n1 j0 j1 j2 r6 hC4 hc4 hE N5 B5 XB5 O5
      go_wp2_with fail
      go_loopw [12, 68] (fun v12 v68 wr => ∃ q : Nat, v68 = .int .i64 (q : Int) ∧ q ≤ E.length ∧ v12 = .bool ((E.take q).any (fun e => decide (e = (⟨bp, bs⟩ : EndT)))) ∧ Aside0 (Below w6.heap.size w6 wr)) (fun _ v68 _ => E.length - (intOf v68).toNat)
      case atStart => exact ⟨0, rfl, Nat.zero_le _, by simp, ⟨Below.refl _ _⟩⟩
      case round =>
        obtain ⟨q, rfl, hq, rfl, HBr⟩ := hrel
        by_cases hlt2 : q < E.length
        · obtain ⟨ad4, e4, z0, z1⟩ := at_End HC4.out q hlt2
          subst e4
          replace z0 := pw_cell_below HBr.out z0
          replace z1 := pw_cell_below HBr.out z1
          have htk := any_take (f := fun e => decide (e = (⟨bp, bs⟩ : EndT))) hlt2
          obtain ⟨⟨ep, es⟩, he⟩ : ∃ e, e = E.getD q default := ⟨_, rfl⟩
          rw [← he] at z0 z1 htk
          have XB7 := Aside0.mk ((XB6.out.below HBr.out).alloc (.cells #[.int .i64 ep, .int .i64 es] 67))
          have B7 := Aside0.mk (below_alloc HBr.out (.cells #[.int .i64 ep, .int .i64 es] 67))
          have b0 := XB7.out.c 0 _ rfl; have b1 := XB7.out.c 1 _ rfl
          obtain ⟨m, hm⟩ : ∃ m, m = (E.take q).any (fun e => decide (e = (⟨bp, bs⟩ : EndT))) := ⟨_, rfl⟩
          rw [← hm] at htk ⊢
          have HTK := Aside0.mk htk
          clear he hm htk
          cases m with
          | true =>
            go_wp2_with fail
            go_roundw
            case rel => exact ⟨q + 1, by go_num, by omega, by rw [HTK.out]; rfl, B7⟩
            case measure => simp [intOf]; omega
          | false =>
            by_cases h1 : ep = bp
            · by_cases h2 : es = bs
              · subst h1
                subst h2
                go_wp2_with fail
                go_roundw
                case rel => exact ⟨q + 1, by go_num, by omega, by rw [HTK.out]; simp, B7⟩
                case measure => simp [intOf]; omega
              · have HNE : Aside0 (decide ((⟨ep, es⟩ : EndT) = ⟨bp, bs⟩) = false) := ⟨decide_eq_false (fun h => h2 (by injection h))⟩
                subst h1
                go_wp2_with fail
                go_roundw
                case rel => exact ⟨q + 1, by go_num, by omega, by rw [HTK.out, HNE.out]; rfl, B7⟩
                case measure => simp [intOf]; omega
            · have HNE : Aside0 (decide ((⟨ep, es⟩ : EndT) = ⟨bp, bs⟩) = false) := ⟨decide_eq_false (fun h => h1 (by injection h))⟩
              go_wp2_with fail
              go_roundw
              case rel => exact ⟨q + 1, by go_num, by omega, by rw [HTK.out, HNE.out]; rfl, B7⟩
              case measure => simp [intOf]; omega
        · have hqa2 : E.take q = E := List.take_of_length_le (by omega)
          obtain ⟨m, hm⟩ : ∃ m, m = (E.take q).any (fun e => decide (e = (⟨bp, bs⟩ : EndT))) := ⟨_, rfl⟩
          rw [← hm]
          rw [hqa2, HE.out, ← HLA.out] at hm
          have HM := Aside0.mk hm.symm
          have BW := Aside0.mk (below_more B6.out HBr.out)
          obtain ⟨WQ, hWQ⟩ : ∃ WQ : World, WQ = wr := ⟨_, rfl⟩
          subst hWQ
          have N8 := Aside0.mk (N6.out.below HBr.out)
          have XB8 := Aside0.mk (XB6.out.below HBr.out)
          have O8 := Aside0.mk (Kd.R_below O6.out HBr.out)
          have Z8 := Aside0.mk (show W0.heap.size ≤ WQ.heap.size by have h1 := Z6.out; have h3 := HBr.out.size; omega)
          have j80 := pw_cell_below HBr.out J60.out
          clear hm hqa2 N6 XB6 O6 Z6 J60
          cases m with
          | false =>
            have HV := Aside0.mk (pl_fail (HP.out.fail hlt (HSL0.out.trans (stepLie_unmet HLB.out HM.out))))
            go_wp2_with fail
            refine bodyPost_ret (v := .tuple #[.slice none 0 0, .bool false]) (by simp [results, Try.results146, go_sem]) rfl ⟨.slice none 0 0, by rw [HV.out.1], by rw [HV.out.2]; exact Kd.R_nil .., BW.out⟩
          | true =>
            have HST := Aside0.mk (stepLie_met HLB.out HM.out)
            have n1 := N8.out.c 1 _ rfl
            have HKJ := Aside0.mk (show (jOf n (lookS ⟨sp, sw⟩)).kind = j.kind by rw [HLA.out, HATA.out.j, HJ.out])
            by_cases hk3 : j.kind = 3
            · have hk3b : (j.kind != 3) = false := by rw [hk3]; rfl
              rw [HKJ.out, if_pos hk3, HLA.out, HATA.out.i, HATA.out.k, HATB.out.k] at HST
              have n0 := N8.out.c 0 _ rfl
              have b0 := XB8.out.c 0 _ rfl; have b1 := XB8.out.c 1 _ rfl
              clear hk3
              go_wp2_with fail
              (with_reducible refine Calls.mono (l1at_any n ((A0, c0), (some adj, c1)) ⟨bp, bs⟩ _ (HR.out.below BW.out)) ?_)
              rintro e w9 ⟨rfl, b9⟩
              simp only [HATB.out.eq]
              have N9 := Aside0.mk (N8.out.below b9)
              have B9 := Aside0.mk (below_more BW.out b9)
              have O9 := Aside0.mk (Kd.R_below O8.out b9)
              have Z9 := Aside0.mk (show W0.heap.size ≤ w9.heap.size by have h1 := Z8.out; have h3 := b9.size; omega)
              have hq4 : qa < 4 := by omega
              have hq5 : qb < 4 := by
                obtain ⟨h1, h2, h3, _⟩ := HG.out.kindAt HATB.out.hi
                have := HATB.out.hq
                omega
              obtain ⟨x, hx⟩ : ∃ x, x = (qa : Int) + (qb : Int) := ⟨_, rfl⟩
              rw [← hx] at HST
              have HXX := Aside0.mk hx
              clear b9 n0 n1 b0 b1 j80 N8 O8 Z8 XB8
              obtain ⟨WX, hWX⟩ : ∃ WX : World, WX = w9.alloc (.cells #[.int .i64 (ia : Int), .int .i64 x] 111) := ⟨_, rfl⟩
              have XL : Aside0 (Bx WX w9.heap.size [.int .i64 (ia : Int), .int .i64 x]) := ⟨by rw [hWX]; exact Bx.new w9 _ 111⟩
              have NX : Aside0 (Bx WX w.heap.size [.slice A0 n.pieces.length c0, .slice (some adj) n.joints.length c1]) := ⟨by rw [hWX]; exact N9.out.alloc _⟩
              have BX : Aside0 (Below w.heap.size w WX) := ⟨by rw [hWX]; exact below_alloc B9.out _⟩
              have OX : Aside0 (Kd.R kLie 111 WX W0.heap.size (fun _ => True) (.slice OA out.length oc) out) := ⟨by rw [hWX]; exact Kd.R_alloc O9.out _⟩
              have ZX : Aside0 (W0.heap.size ≤ WX.heap.size) := ⟨by have := Z9.out; rw [hWX]; simp; omega⟩
              have HWX := Aside0.mk hWX
              clear hWX hx N9 O9
              obtain ⟨xb, hxb⟩ : ∃ b, b = w9.heap.size := ⟨_, rfl⟩
              go_wp2_with fail
              rw [← HXX.out, ← HWX.out]
              rw [← hxb] at XL ⊢
              clear hxb
              go_loopw [18, 101] (fun v18 v101 wr => ∃ q : Nat, v101 = .int .i64 (q : Int) ∧ q ≤ out.length ∧ v18 = .bool ((out.take q).any (fun y => decide (y.joint = (ia : Int)))) ∧ Aside0 (∀ p, p < q → ¬ ((out.getD p default).joint = (ia : Int) ∧ (out.getD p default).lie ≠ x)) ∧ Aside0 (Below WX.heap.size WX wr)) (fun _ v101 _ => out.length - (intOf v101).toNat)
              case atStart => exact ⟨0, rfl, Nat.zero_le _, by simp, ⟨fun p hp => by omega⟩, ⟨Below.refl _ _⟩⟩
              case round =>
                obtain ⟨q, rfl, hq, rfl, HT3, HBr⟩ := hrel
                obtain ⟨_, _, eO, hcO, hCO⟩ := Kd.R_reads OX.out
                injection eO with eO1 _ eO2
                subst eO1
                subst eO2
                have hmO := hCO.2.1
                have HCO := Aside0.mk hCO
                clear hCO
                by_cases hlt3 : q < out.length
                · obtain ⟨adO, eO, z0, z1⟩ := at_Lie HCO.out q hlt3
                  subst eO
                  replace z0 := pw_cell_below HBr.out z0
                  replace z1 := pw_cell_below HBr.out z1
                  have htk := any_take (f := fun y : LieT => decide (y.joint = (ia : Int))) hlt3
                  obtain ⟨⟨yj, yl⟩, hy⟩ : ∃ y, y = out.getD q default := ⟨_, rfl⟩
                  rw [← hy] at z0 z1 htk
                  have HY := Aside0.mk hy.symm
                  have XL7 := Aside0.mk ((XL.out.below HBr.out).alloc (.cells #[.int .i64 yj, .int .i64 yl] 111))
                  have B7 := Aside0.mk (below_alloc HBr.out (.cells #[.int .i64 yj, .int .i64 yl] 111))
                  have b0 := XL7.out.c 0 _ rfl; have b1 := XL7.out.c 1 _ rfl
                  have HTK := Aside0.mk htk
                  clear hy htk
                  by_cases h1 : yj = (ia : Int)
                  · have h1b : (yj == (ia : Int)) = true := by simpa using h1
                    by_cases h2 : yl = x
                    · have h2b : (yl != x) = false := by simpa using h2
                      have HN := Aside0.mk (show ¬ ((out.getD q default).joint = (ia : Int) ∧ (out.getD q default).lie ≠ x) by rw [HY.out]; exact fun h => h.2 h2)
                      have HD := Aside0.mk (show decide (yj = (ia : Int)) = true from decide_eq_true h1)
                      clear h1 h2
                      go_wp2_with fail
                      go_roundw
                      case rel => exact ⟨q + 1, by go_num, by omega, by rw [HTK.out]; simp only [HD.out, Bool.or_true], ⟨upto_step HT3.out HN.out⟩, B7⟩
                      case measure => simp [intOf]; omega
                    · have h2b : (yl != x) = true := by simpa using h2
                      have HV := Aside0.mk (pl_fail (HP.out.bad hlt (HSL0.out.trans HST.out) (addLie_bad hlt3 (by rw [HY.out]; exact h1) (by rw [HY.out]; exact h2))))
                      have BR := Aside0.mk (below_more BX.out B7.out)
                      clear h1 h2
                      go_wp2_with fail
                      refine bodyPost_ret (v := .tuple #[.slice none 0 0, .bool false]) (by simp [results, Try.results146, go_sem]) rfl ⟨.slice none 0 0, by rw [HV.out.1], by rw [HV.out.2]; exact Kd.R_nil .., BR.out⟩
                  · have h1b : (yj == (ia : Int)) = false := by simpa using h1
                    have HN := Aside0.mk (show ¬ ((out.getD q default).joint = (ia : Int) ∧ (out.getD q default).lie ≠ x) by rw [HY.out]; exact fun h => h1 h.1)
                    have HD := Aside0.mk (show decide (yj = (ia : Int)) = false from decide_eq_false h1)
                    clear h1
                    go_wp2_with fail
                    go_roundw
                    case rel => exact ⟨q + 1, by go_num, by omega, by rw [HTK.out]; simp only [HD.out, Bool.or_false], ⟨upto_step HT3.out HN.out⟩, B7⟩
                    case measure => simp [intOf]; omega
                · have hqo : out.take q = out := List.take_of_length_le (by omega)
                  have HADD := Aside0.mk (addLie_end (out := out) (x := ⟨(ia : Int), x⟩) (fun p hp => HT3.out p (by omega)))
                  rw [hqo]
                  obtain ⟨m, hm⟩ : ∃ m, m = out.any (fun y => decide (y.joint = (ia : Int))) := ⟨_, rfl⟩
                  simp only at HADD
                  rw [← hm] at HADD ⊢
                  have NR := Aside0.mk (NX.out.below HBr.out)
                  have BR := Aside0.mk (below_more BX.out HBr.out)
                  have OR := Aside0.mk (Kd.R_below OX.out HBr.out)
                  have XR := Aside0.mk (XL.out.below HBr.out)
                  have ZR := Aside0.mk (show W0.heap.size ≤ wr.heap.size by have h1 := ZX.out; have h3 := HBr.out.size; omega)
                  clear hm hqo
                  cases m with
                  | true =>
                    rw [if_pos rfl] at HADD
                    go_wp2_with fail
                    go_roundw
                    case rel => exact ⟨i + 1, OA, oc, out, rfl, by go_num, by omega, ⟨HP.out.add hlt (HSL0.out.trans HST.out) HADD.out⟩, OR, NR, BR, ZR.out⟩
                    case measure => simp [intOf]; omega
                  | false =>
                    rw [if_neg (by decide)] at HADD
                    have x0 := XR.out.c 0 _ rfl; have x1 := XR.out.c 1 _ rfl
                    have HOL := Aside0.mk (show out.length ≤ 400 from by have := HP.out.2.1; omega)
                    have HLEN : Aside0 ((out ++ [(⟨(ia : Int), x⟩ : LieT)]).length = out.length + 1) := ⟨by simp⟩
                    go_wp2_with ((with_reducible refine gate_callP (b := .append) (xs := #[.tmp 117, .tmp 119]) rfl ?_); at_builtin; refine Kd.R_append kLie (w0 := wr) W0.heap.size rfl (.tmp 117) (.tmp 119) 95 111 (.agg #[.int .i64 0, .int .i64 0]) 16 rfl Try.underlying95 info111 rfl (by decide) (by omega) (.slice OA out.length oc) out ⟨(ia : Int), x⟩ [.int .i64 (ia : Int), .int .i64 x] (fun _ => True) (fun _ => False) rfl (by first | (go_simp; done) | (go_simp; rfl)) (kLie_mkM _ _ _ ⟨(ia : Int), x⟩) (fun _ hk => hk.elim) (fun _ _ => trivial) OR.out (Below.refl _ _) ZR.out (by have := HOL.out; omega) ?_; intro v1 w10 hR9 hB9 hG9 hat9; obtain ⟨pA1, pc1, hv9⟩ := Kd.R_slice hR9; rw [HLEN.out] at hv9; subst hv9; have R10 := Aside0.mk hR9; have G10 := Aside0.mk hG9; have B10 := Aside0.mk hB9; clear hR9 hB9 hG9 hat9)
                    go_roundw
                    case rel =>
                      refine ⟨i + 1, pA1, pc1, out ++ [(⟨(ia : Int), x⟩ : LieT)], by rw [HLEN.out], by go_num, by omega, ⟨HP.out.add hlt (HSL0.out.trans HST.out) HADD.out⟩, ⟨by rw [HLEN.out]; exact R10.out⟩, ⟨NR.out.grownP G10.out (fun he => by have h1 := Kd.R_base OR.out _ he.symm; have h2 := Z0.out; omega)⟩, ⟨?_⟩, by have h1 := B10.out.size; have h2 := ZR.out; omega⟩
                      have h2 := Z0.out
                      exact BR.out.trans ⟨B10.out.os, B10.out.tape, B10.out.output, B10.out.size, fun i hi => B10.out.block i (by omega)⟩
                    case measure => simp [intOf]; omega
            · have hk3b : (j.kind != 3) = true := by simpa using hk3
              rw [HKJ.out, if_neg hk3] at HST
              clear hk3
              go_wp2_with fail
              go_roundw
              case rel => exact ⟨i + 1, OA, oc, out, rfl, by go_num, by omega, ⟨HP.out.skip hlt (HSL0.out.trans HST.out)⟩, O8, N8, BW, Z8.out⟩
              case measure => simp [intOf]; omega
    · have HD := Aside0.mk (pl_done HSB.out (HP.out.stop (by omega)))
      go_wp2_with fail
      refine bodyPost_ret (v := .tuple #[.slice OA out.length oc, .bool true]) (by simp [results, Try.results146, go_sem]) rfl ⟨_, by rw [HD.out.1], by rw [HD.out.2]; exact Kd.R_lower HO.out (by have := Z0.out; omega), B1.out⟩
end Go.Proofs.Ytckcffjnffcjcaa
