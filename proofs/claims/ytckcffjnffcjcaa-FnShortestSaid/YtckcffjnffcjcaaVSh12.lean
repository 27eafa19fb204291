/- Texts of this work, of each what the claim leans on: Pl6, Shp1, StrLaw. No conditions. -/
import Derived.Test.YtckcffjnffcjcaaVSh11
set_option linter.unusedVariables false
set_option linter.unusedSimpArgs false
namespace Go.Proofs.Ytckcffjnffcjcaa
open Go.RowKit Go.Proofs.YtckcffjnffcjcaaW.PrintWords
theorem head_look' (s : StepT) : headE ⟨s.piece, 0, s.way⟩ = lookS s := rfl
theorem head_begin {n : NetT} {t : StepT} (h : stepB n t = true) : headE ⟨t.piece, 0, -t.way⟩ = beginS t := by
  have := stepB_iff.1 h
  obtain ⟨p, w⟩ := t
  unfold headE beginS
  simp only at this ⊢
  rcases this.2.2 with rfl | rfl <;> rfl
theorem met_iff {l : List EndT} {b : EndT} : l.any (fun e => decide (e = b)) = true ↔ b ∈ l := by
  rw [List.any_eq_true]
  constructor
  · rintro ⟨x, hx, h⟩
    have := of_decide_eq_true h
    rwa [← this]
  · intro h; exact ⟨b, h, by simp⟩
theorem stepLie_met {n : NetT} {s t : StepT} {b : EndT} (hb : beginS t = b) (h : (acrossE n (lookS s)).any (fun e => decide (e = b)) = true) : stepLie n s t = if (jOf n (lookS s)).kind = 3 then some (some ⟨(iOf n (lookS s) : Int), (kOf n (lookS s) : Int) + (kOf n b : Int)⟩) else some none := by
  subst hb
  unfold stepLie
  rw [if_pos (met_iff.1 h)]
theorem stepLie_unmet {n : NetT} {s t : StepT} {b : EndT} (hb : beginS t = b) (h : (acrossE n (lookS s)).any (fun e => decide (e = b)) = false) : stepLie n s t = none := by
  subst hb
  unfold stepLie
  rw [if_neg]
  intro hm
  rw [met_iff.2 hm] at h; cases h
theorem addLie_bad {out : List LieT} {x : LieT} {q : Nat} (hq : q < out.length) (h1 : (out.getD q default).joint = x.joint) (h2 : (out.getD q default).lie ≠ x.lie) : addLie out x = none := by
  unfold addLie
  rw [if_pos]
  rw [List.any_eq_true]
  exact ⟨_, getD_mem out q hq, decide_eq_true ⟨h1, h2⟩⟩
theorem addLie_end {out : List LieT} {x : LieT} (h : ∀ q, q < out.length → ¬ ((out.getD q default).joint = x.joint ∧ (out.getD q default).lie ≠ x.lie)) :
    addLie out x = if out.any (fun y => decide (y.joint = x.joint)) = true then some out else some (out ++ [x]) := by
  unfold addLie
  rw [if_neg]
  rw [List.any_eq_true]
  rintro ⟨y, hy, hd⟩
  obtain ⟨q, hq, rfl⟩ := List.mem_iff_getElem.1 hy
  have := h q hq
  rw [getD_at out q hq] at this
  exact this (of_decide_eq_true hd)
set_option maxRecDepth 100000 in
set_option maxHeartbeats 8000000 in
theorem specPL_any (n : NetT) (u : (Option Addr × Nat) × (Option Addr × Nat)) (A : Option Addr) (c : Nat) (l : List StepT) (w : World) (hr : RdNet 67 w u n) (hg : Good n) (hC : Kd.C kStep w A l.length l) (hs : stepsB n l = true) :
    Calls Try.prog 146 #[.agg #[.slice u.1.1 n.pieces.length u.1.2, .slice u.2.1 n.joints.length u.2.2], .slice A l.length c] w
      fun e w' => ∃ v, e = .returned (.tuple #[v, .bool (plOk n l)]) ∧ Kd.R kLie 111 w' w.heap.size (fun _ => True) v (plV n l) ∧ Below w.heap.size w w' := by
  have HR := Aside0.mk hr
  have HG := Aside0.mk hg
  have HC := Aside0.mk hC
  have HSB := Aside0.mk hs
  have hjm := hr.2.1.2.1
  have hml : l.length ≤ 400 := by
    have := hs
    unfold stepsB at this
    simp only [Bool.and_eq_true, decide_eq_true_eq] at this
    exact this.1
  have HT1 := Aside0.mk (show ∀ k, k < l.length → stepB n (l.getD k default) = true from fun k hk => by
    have := hs
    unfold stepsB at this
    simp only [Bool.and_eq_true, List.all_eq_true] at this
    exact this.2 _ (getD_mem l k hk))
  obtain ⟨⟨A0, c0⟩, ⟨A1, c1⟩⟩ := u
  obtain ⟨W0, hW0⟩ : ∃ W0 : World, W0 = w.alloc (.cells #[.slice A0 n.pieces.length c0, .slice A1 n.joints.length c1] 35) := ⟨_, rfl⟩
  have N0 : Aside0 (Bx W0 w.heap.size [.slice A0 n.pieces.length c0, .slice A1 n.joints.length c1]) := ⟨by rw [hW0]; exact Bx.new w _ 35⟩
  have B0 : Aside0 (Below w.heap.size w W0) := ⟨by rw [hW0]; exact below_alloc (Below.refl _ _) _⟩
  have Z0 : Aside0 (W0.heap.size = w.heap.size + 1) := ⟨by rw [hW0]; simp⟩
  have HW0 := Aside0.mk hW0
  clear hr hg hC hs hW0
  go_enter Try.func146, Try.ntmps146
  go_wp2_with fail
  rw [← HW0.out]
  go_loopw [6, 7] (fun v6 v7 wr => ∃ (i : Nat) (OA : Option Addr) (oc : Nat) (out : List LieT), v6 = .slice OA out.length oc ∧ v7 = .int .i64 (i : Int) ∧ i ≤ l.length + 1 ∧ Aside0 (PI n l i out) ∧ Aside0 (Kd.R kLie 111 wr W0.heap.size (fun _ => True) (.slice OA out.length oc) out) ∧ Aside0 (Bx wr w.heap.size [.slice A0 n.pieces.length c0, .slice A1 n.joints.length c1]) ∧ Aside0 (Below w.heap.size w wr) ∧ W0.heap.size ≤ wr.heap.size) (fun _ v7 _ => l.length + 1 - (intOf v7).toNat)
  case atStart => exact ⟨1, none, 0, [], rfl, rfl, by omega, ⟨PI.start n l⟩, ⟨Kd.R_nil ..⟩, N0, B0, Nat.le_refl _⟩
  case round =>
    obtain ⟨i, OA, oc, out, rfl, rfl, hi, HP, HO, N1, B1, hsz1⟩ := hrel
    obtain ⟨WO, hWO⟩ : ∃ WO : World, WO = wr := ⟨_, rfl⟩
    subst hWO
    by_cases hlt : i < l.length
    · obtain ⟨k, hk⟩ : ∃ k, i = k + 1 := ⟨i - 1, by have := HP.out.1; omega⟩
      have hkl : k < l.length := by omega
      have HK := Aside0.mk hk
      obtain ⟨ad0, e0, y0, y1⟩ := at_Step HC.out k hkl
      obtain ⟨ad0', e0', x0, x1⟩ := at_Step HC.out i hlt
      subst e0
      injection e0' with e0'
      subst e0'
      replace y0 := pw_cell_below B1.out y0
      replace y1 := pw_cell_below B1.out y1
      replace x0 := pw_cell_below B1.out x0
      replace x1 := pw_cell_below B1.out x1
      have hst := HT1.out k hkl
      have htt := HT1.out i hlt
      obtain ⟨⟨sp, sw⟩, hs⟩ : ∃ s, s = l.getD k default := ⟨_, rfl⟩
      obtain ⟨⟨tp, tw⟩, ht⟩ : ∃ t, t = l.getD i default := ⟨_, rfl⟩
      rw [← hs] at y0 y1 hst
      rw [← ht] at x0 x1 htt
      have HSL0 := Aside0.mk (show stepLie n (l.getD (i - 1) default) (l.getD i default) = stepLie n ⟨sp, sw⟩ ⟨tp, tw⟩ by rw [hs, ht, hk]; rfl)
      have htw := stepB_iff.1 htt
      simp only at htw
      obtain ⟨⟨ap, as_⟩, ha⟩ : ∃ e, e = lookS ⟨sp, sw⟩ := ⟨_, rfl⟩
      obtain ⟨⟨bp, bs⟩, hb⟩ : ∃ e, e = beginS ⟨tp, tw⟩ := ⟨_, rfl⟩
      have HA := Aside0.mk (show headE ⟨sp, 0, sw⟩ = ⟨ap, as_⟩ from (head_look' ⟨sp, sw⟩).trans ha.symm)
      have HB := Aside0.mk (show headE ⟨tp, 0, -tw⟩ = ⟨bp, bs⟩ from (head_begin htt).trans hb.symm)
      have HAV : Aside0 ((Value.agg #[.int .i64 (headE ⟨sp, 0, sw⟩).piece, .int .i64 (headE ⟨sp, 0, sw⟩).side]) = (Value.agg #[.int .i64 ap, .int .i64 as_])) := ⟨by rw [HA.out]⟩
      have HBV : Aside0 ((Value.agg #[.int .i64 (headE ⟨tp, 0, -tw⟩).piece, .int .i64 (headE ⟨tp, 0, -tw⟩).side]) = (Value.agg #[.int .i64 bp, .int .i64 bs])) := ⟨by rw [HB.out]⟩
      have hea := lookS_ok hst
      have heb := beginS_ok htt
      rw [← ha] at hea
      rw [← hb] at heb
      obtain ⟨ia, qa, hata⟩ := HG.out.at_ hea
      obtain ⟨ib, qb, hatb⟩ := HG.out.at_ heb
      have HATA := Aside0.mk hata
      have HATB := Aside0.mk hatb
      have HLA := Aside0.mk ha.symm
      have HLB := Aside0.mk hb.symm
      have hneg : IntKind.i64.wrap (-tw) = -tw := wrap64 (by omega) (by omega)
      have hJ2 : IntKind.i64.wrap ((i : Int) - 1) = (k : Int) := by rw [wrap64 (by omega) (by omega)]; omega
      have hk0 : (0 : Int) ≤ (k : Int) := by omega
      have hk1 : (k : Int) < (l.length : Int) := by omega
      have HY0 := Aside0.mk y0; have HY1 := Aside0.mk y1; have HX0 := Aside0.mk x0; have HX1 := Aside0.mk x1
      clear hs ht ha hb hst htt htw hata hatb hea heb hk hkl
      go_wp2_with fail
      have HShA : Aside0 (∀ W, Below WO.heap.size WO W → (Below WO.heap.size WO W ∧ W.cell? (ad0.add (k * 2)) = some (.int .i64 sp) ∧ W.cell? ⟨(ad0.add (k * 2)).block, (ad0.add (k * 2)).off + 1, none⟩ = some (.int .i64 sw))) := ⟨fun W hb => ⟨hb, pw_cell_below hb HY0.out, pw_cell_below hb HY1.out⟩⟩
      go_cut [8] (fun sv W => ∃ bn, sv = .pointer (some ⟨bn, 0, none⟩) ∧ Aside0 (Below WO.heap.size WO W) ∧ Aside0 (Bx W bn [.int .i64 ap, .int .i64 as_]))
      case first =>
        go_region_held3 (fun W => Below WO.heap.size WO W ∧ W.cell? (ad0.add (k * 2)) = some (.int .i64 sp) ∧ W.cell? ⟨(ad0.add (k * 2)).block, (ad0.add (k * 2)).off + 1, none⟩ = some (.int .i64 sw))
          (first | (with_reducible assumption) | (with_reducible exact HShA.out _ (by with_reducible assumption)) | (with_reducible exact HShA.out _ (by repeat (first | (with_reducible assumption) | (with_reducible refine below_set ?_ (Below.size (by with_reducible assumption))) | (with_reducible refine below_set ?_ (Nat.le_refl _)) | (with_reducible refine below_set ?_ (by omega)) | (with_reducible refine below_alloc ?_ _) | (with_reducible exact Below.refl _ _) | (with_reducible refine below_drew ?_)))))
          (first
            | (go_at_call 157; go_split_ands; (with_reducible refine Calls.mono (l3head_any ⟨sp, 0, sw⟩ _) ?_); rintro e hAw ⟨rfl, b3⟩; rw [HAV.out]; have hAq : Below WO.heap.size WO hAw := below_more (by assumption) b3; have hAz := hAq.size; (first | (with_reducible have hAX := Aside0.mk ((Bx.new _ [.int .i64 0, .int .i64 0] 67).below b3)) | (with_reducible have hAX := Aside0.mk ((Bx.drew (Bx.new _ [.int .i64 0, .int .i64 0] 67)).below b3)) | skip); (first | (have hAx0 := hAX.out.c 0 _ rfl; have hAxf0 := hAX.out.f 0; have hAx1 := hAX.out.c 1 _ rfl; have hAxf1 := hAX.out.f 1; have hAxl := hAX.out.lt) | skip); have hAQ := Aside0.mk hAq; clear b3))
        all_goals
          try go_wp2_with fail
          go_meet
          case rel =>
            first
              | (with_reducible refine ⟨_, rfl, ⟨below_alloc hAQ.out _⟩, ⟨Bx.new' _ _ _ rfl⟩⟩; done)
              | (refine ⟨_, rfl, ⟨?_⟩, ⟨?_⟩⟩
                 · repeat (first | (with_reducible exact hAQ.out) | (with_reducible refine below_set ?_ (Below.size (by with_reducible assumption))) | (with_reducible refine below_set ?_ (Nat.le_refl _)) | (with_reducible refine below_set ?_ (by omega)) | (with_reducible refine below_alloc ?_ _))
                 · exact ((hAX.out.set (i := 0) (by simp) _).set (i := 1) (by simp) _))
      case rest =>
      obtain ⟨hAb, rfl, hAB, XA⟩ := hcut
      obtain ⟨WhA, hWhA⟩ : ∃ WhA, WhA = wc := ⟨_, rfl⟩
      subst hWhA
      have NA := Aside0.mk (N1.out.below hAB.out)
      have BA := Aside0.mk (below_more B1.out hAB.out)
      have HY2 := Aside0.mk (pw_cell_below hAB.out HX0.out); have HY3 := Aside0.mk (pw_cell_below hAB.out HX1.out)
      have x20 := HY2.out; have x21 := HY3.out
      clear y0 y1 x0 x1
      go_wp2_with fail
      have HShB : Aside0 (∀ W, Below WhA.heap.size WhA W → (Below WhA.heap.size WhA W ∧ W.cell? (ad0.add (i * 2)) = some (.int .i64 tp) ∧ W.cell? ⟨(ad0.add (i * 2)).block, (ad0.add (i * 2)).off + 1, none⟩ = some (.int .i64 tw))) := ⟨fun W hb => ⟨hb, pw_cell_below hb HY2.out, pw_cell_below hb HY3.out⟩⟩
      go_cut [9] (fun sv W => ∃ bn, sv = .pointer (some ⟨bn, 0, none⟩) ∧ Aside0 (Below WhA.heap.size WhA W) ∧ Aside0 (Bx W bn [.int .i64 bp, .int .i64 bs]))
      case first =>
        go_region_held3 (fun W => Below WhA.heap.size WhA W ∧ W.cell? (ad0.add (i * 2)) = some (.int .i64 tp) ∧ W.cell? ⟨(ad0.add (i * 2)).block, (ad0.add (i * 2)).off + 1, none⟩ = some (.int .i64 tw))
          (first | (with_reducible assumption) | (with_reducible exact HShB.out _ (by with_reducible assumption)) | (with_reducible exact HShB.out _ (by repeat (first | (with_reducible assumption) | (with_reducible refine below_set ?_ (Below.size (by with_reducible assumption))) | (with_reducible refine below_set ?_ (Nat.le_refl _)) | (with_reducible refine below_set ?_ (by omega)) | (with_reducible refine below_alloc ?_ _) | (with_reducible exact Below.refl _ _) | (with_reducible refine below_drew ?_)))))
          (first
            | (go_at_call 157; go_split_ands; (with_reducible refine Calls.mono (l3head_any ⟨tp, 0, -tw⟩ _) ?_); rintro e hBw ⟨rfl, b3⟩; rw [HBV.out]; have hBq : Below WhA.heap.size WhA hBw := below_more (by assumption) b3; have hBz := hBq.size; (first | (with_reducible have hBX := Aside0.mk ((Bx.new _ [.int .i64 0, .int .i64 0] 67).below b3)) | (with_reducible have hBX := Aside0.mk ((Bx.drew (Bx.new _ [.int .i64 0, .int .i64 0] 67)).below b3)) | skip); (first | (have hBx0 := hBX.out.c 0 _ rfl; have hBxf0 := hBX.out.f 0; have hBx1 := hBX.out.c 1 _ rfl; have hBxf1 := hBX.out.f 1; have hBxl := hBX.out.lt) | skip); have hBQ := Aside0.mk hBq; clear b3))
        all_goals
          try go_wp2_with fail
          go_meet
          case rel =>
            first
              | (with_reducible refine ⟨_, rfl, ⟨below_alloc hBQ.out _⟩, ⟨Bx.new' _ _ _ rfl⟩⟩; done)
              | (refine ⟨_, rfl, ⟨?_⟩, ⟨?_⟩⟩
                 · repeat (first | (with_reducible exact hBQ.out) | (with_reducible refine below_set ?_ (Below.size (by with_reducible assumption))) | (with_reducible refine below_set ?_ (Nat.le_refl _)) | (with_reducible refine below_set ?_ (by omega)) | (with_reducible refine below_alloc ?_ _))
                 · exact ((hBX.out.set (i := 0) (by simp) _).set (i := 1) (by simp) _))
      case rest =>
      obtain ⟨hBb, rfl, hBB, XB⟩ := hcut
      obtain ⟨WhB, hWhB⟩ : ∃ WhB, WhB = wc := ⟨_, rfl⟩
      subst hWhB
      have NB := Aside0.mk (NA.out.below hBB.out)
      have BB := Aside0.mk (below_more BA.out hBB.out)
      have XA2 := Aside0.mk (XA.out.below hBB.out)
      have OB := Aside0.mk (Kd.R_below (Kd.R_below HO.out hAB.out) hBB.out)
      clear x20 x21
      have n0 := NB.out.c 0 _ rfl; have n1 := NB.out.c 1 _ rfl; have a0 := XA2.out.c 0 _ rfl; have a1 := XA2.out.c 1 _ rfl
      go_wp2_with fail
      (with_reducible refine Calls.mono (l1at_any n ((A0, c0), (A1, c1)) ⟨ap, as_⟩ _ (HR.out.below BB.out)) ?_)
      rintro e w5 ⟨rfl, b5⟩
      simp only [HATA.out.eq]
      have N5 := Aside0.mk (NB.out.below b5)
      have B5 := Aside0.mk (below_more BB.out b5)
      have XB5 := Aside0.mk (XB.out.below b5)
      have O5 := Aside0.mk (Kd.R_below OB.out b5)
      have Z5 := Aside0.mk (show W0.heap.size ≤ w5.heap.size by have h1 := hAB.out.size; have h2 := hBB.out.size; have h3 := b5.size; omega)
      clear b5 n0 n1 a0 a1 XA XA2 XB OB NB
      have hia := HATA.out.hi
      obtain ⟨hk1', hk2', hk3', hk4'⟩ := HG.out.kindAt hia
      have hqa := HATA.out.hq
      obtain ⟨adj, A2, c2, ej, j0, j1, j2, m0, g0⟩ := at_Joint (HR.out.below B5.out).2.1 ia hia
      simp only at ej
      subst ej
      obtain ⟨j, hj⟩ : ∃ j, j = n.joints.getD ia default := ⟨_, rfl⟩
      rw [← hj] at j0 j1 j2 m0 g0 hk1' hk2' hk3' hqa
      have HJ := Aside0.mk hj
      have HCJ := Aside0.mk g0
      clear hj m0 g0 hk4'
      have hi0 : (0 : Int) ≤ (ia : Int) := by omega
      have hi1 : (ia : Int) < (n.joints.length : Int) := by omega
      have n0 := N5.out.c 0 _ rfl; have n1 := N5.out.c 1 _ rfl
      go_wp2_with fail
      (with_reducible refine Calls.mono (l1across_any j A2 c2 qa _ HCJ.out hk3' hqa hk2') ?_)
      rintro e w6 ⟨v6, rfl, r6, b6⟩
      obtain ⟨E, hE⟩ : ∃ E, E = acrossJ j qa := ⟨_, rfl⟩
      rw [← hE] at r6
      have HE := Aside0.mk (show E = acrossE n ⟨ap, as_⟩ by rw [hE]; unfold acrossE; rw [HATA.out.j, HATA.out.k, HJ.out])
      obtain ⟨A4, c4, e4, hc4, hC4⟩ := Kd.R_reads r6
      subst e4
      have HC4 := Aside0.mk hC4
      have hm4 := hC4.2.1
      have N6 := Aside0.mk (N5.out.below b6)
      have B6 := Aside0.mk (below_more B5.out b6)
      have XB6 := Aside0.mk (XB5.out.below b6)
      have O6 := Aside0.mk (Kd.R_below O5.out b6)
      have Z6 := Aside0.mk (show W0.heap.size ≤ w6.heap.size by have h1 := Z5.out; have h3 := b6.size; omega)
      have J60 := Aside0.mk (pw_cell_below b6 j0)
      clear b6 n0 n1 j0 j1 j2 r6 hC4 hc4 hE N5 B5 XB5 O5
      go_wp2_with fail
      go_loopw [12, 68] (fun v12 v68 wr => ∃ q : Nat, v68 = .int .i64 (q : Int) ∧ q ≤ E.length ∧ v12 = .bool ((E.take q).any (fun e => decide (e = (⟨bp, bs⟩ : EndT)))) ∧ Aside0 (Below w6.heap.size w6 wr)) (fun _ v68 _ => E.length - (intOf v68).toNat)
      case atStart => exact ⟨0, rfl, Nat.zero_le _, by simp, ⟨Below.refl _ _⟩⟩
      case round =>
        obtain ⟨q, rfl, hq, rfl, HBr⟩ := hrel
        by_cases hlt2 : q < E.length
        · obtain ⟨ad4, e4, z0, z1⟩ := at_End HC4.out q hlt2
          subst e4
          replace z0 := pw_cell_below HBr.out z0
          replace z1 := pw_cell_below HBr.out z1
          have htk := any_take (f := fun e => decide (e = (⟨bp, bs⟩ : EndT))) hlt2
          obtain ⟨⟨ep, es⟩, he⟩ : ∃ e, e = E.getD q default := ⟨_, rfl⟩
          rw [← he] at z0 z1 htk
          have XB7 := Aside0.mk ((XB6.out.below HBr.out).alloc (.cells #[.int .i64 ep, .int .i64 es] 67))
          have B7 := Aside0.mk (below_alloc HBr.out (.cells #[.int .i64 ep, .int .i64 es] 67))
          have b0 := XB7.out.c 0 _ rfl; have b1 := XB7.out.c 1 _ rfl
          obtain ⟨m, hm⟩ : ∃ m, m = (E.take q).any (fun e => decide (e = (⟨bp, bs⟩ : EndT))) := ⟨_, rfl⟩
          rw [← hm] at htk ⊢
          have HTK := Aside0.mk htk
          clear he hm htk
          cases m with
          | true =>
            go_wp2_with fail
            go_roundw
            case rel => exact ⟨q + 1, by go_num, by omega, by rw [HTK.out]; rfl, B7⟩
            case measure => simp [intOf]; omega
          | false =>
            by_cases h1 : ep = bp
            · by_cases h2 : es = bs
              · subst h1
                subst h2
                go_wp2_with fail
                go_roundw
                case rel => exact ⟨q + 1, by go_num, by omega, by rw [HTK.out]; simp, B7⟩
                case measure => simp [intOf]; omega
              · have HNE : Aside0 (decide ((⟨ep, es⟩ : EndT) = ⟨bp, bs⟩) = false) := ⟨decide_eq_false (fun h => h2 (by injection h))⟩
                subst h1
                go_wp2_with fail
                go_roundw
                case rel => exact ⟨q + 1, by go_num, by omega, by rw [HTK.out, HNE.out]; rfl, B7⟩
                case measure => simp [intOf]; omega
            · have HNE : Aside0 (decide ((⟨ep, es⟩ : EndT) = ⟨bp, bs⟩) = false) := ⟨decide_eq_false (fun h => h1 (by injection h))⟩
              go_wp2_with fail
              go_roundw
              case rel => exact ⟨q + 1, by go_num, by omega, by rw [HTK.out, HNE.out]; rfl, B7⟩
              case measure => simp [intOf]; omega
        · have hqa2 : E.take q = E := List.take_of_length_le (by omega)
          obtain ⟨m, hm⟩ : ∃ m, m = (E.take q).any (fun e => decide (e = (⟨bp, bs⟩ : EndT))) := ⟨_, rfl⟩
          rw [← hm]
          rw [hqa2, HE.out, ← HLA.out] at hm
          have HM := Aside0.mk hm.symm
          have BW := Aside0.mk (below_more B6.out HBr.out)
          obtain ⟨WQ, hWQ⟩ : ∃ WQ : World, WQ = wr := ⟨_, rfl⟩
          subst hWQ
          have N8 := Aside0.mk (N6.out.below HBr.out)
          have XB8 := Aside0.mk (XB6.out.below HBr.out)
          have O8 := Aside0.mk (Kd.R_below O6.out HBr.out)
          have Z8 := Aside0.mk (show W0.heap.size ≤ WQ.heap.size by have h1 := Z6.out; have h3 := HBr.out.size; omega)
          have j80 := pw_cell_below HBr.out J60.out
          clear hm hqa2 N6 XB6 O6 Z6 J60
          cases m with
          | false =>
            have HV := Aside0.mk (pl_fail (HP.out.fail hlt (HSL0.out.trans (stepLie_unmet HLB.out HM.out))))
            go_wp2_with fail
            refine bodyPost_ret (v := .tuple #[.slice none 0 0, .bool false]) (by simp [results, Try.results146, go_sem]) rfl ⟨.slice none 0 0, by rw [HV.out.1], by rw [HV.out.2]; exact Kd.R_nil .., BW.out⟩
          | true =>
            have HST := Aside0.mk (stepLie_met HLB.out HM.out)
            have n1 := N8.out.c 1 _ rfl
            have HKJ := Aside0.mk (show (jOf n (lookS ⟨sp, sw⟩)).kind = j.kind by rw [HLA.out, HATA.out.j, HJ.out])
            by_cases hk3 : j.kind = 3
            · have hk3b : (j.kind != 3) = false := by rw [hk3]; rfl
              rw [HKJ.out, if_pos hk3, HLA.out, HATA.out.i, HATA.out.k, HATB.out.k] at HST
              have n0 := N8.out.c 0 _ rfl
              have b0 := XB8.out.c 0 _ rfl; have b1 := XB8.out.c 1 _ rfl
              clear hk3
              go_wp2_with fail
              (with_reducible refine Calls.mono (l1at_any n ((A0, c0), (some adj, c1)) ⟨bp, bs⟩ _ (HR.out.below BW.out)) ?_)
              rintro e w9 ⟨rfl, b9⟩
              simp only [HATB.out.eq]
              have N9 := Aside0.mk (N8.out.below b9)
              have B9 := Aside0.mk (below_more BW.out b9)
              have O9 := Aside0.mk (Kd.R_below O8.out b9)
              have Z9 := Aside0.mk (show W0.heap.size ≤ w9.heap.size by have h1 := Z8.out; have h3 := b9.size; omega)
              have hq4 : qa < 4 := by omega
              have hq5 : qb < 4 := by
                obtain ⟨h1, h2, h3, _⟩ := HG.out.kindAt HATB.out.hi
                have := HATB.out.hq
                omega
              obtain ⟨x, hx⟩ : ∃ x, x = (qa : Int) + (qb : Int) := ⟨_, rfl⟩
              rw [← hx] at HST
              have HXX := Aside0.mk hx
              clear b9 n0 n1 b0 b1 j80 N8 O8 Z8 XB8
              obtain ⟨WX, hWX⟩ : ∃ WX : World, WX = w9.alloc (.cells #[.int .i64 (ia : Int), .int .i64 x] 111) := ⟨_, rfl⟩
              have XL : Aside0 (Bx WX w9.heap.size [.int .i64 (ia : Int), .int .i64 x]) := ⟨by rw [hWX]; exact Bx.new w9 _ 111⟩
              have NX : Aside0 (Bx WX w.heap.size [.slice A0 n.pieces.length c0, .slice (some adj) n.joints.length c1]) := ⟨by rw [hWX]; exact N9.out.alloc _⟩
              have BX : Aside0 (Below w.heap.size w WX) := ⟨by rw [hWX]; exact below_alloc B9.out _⟩
              have OX : Aside0 (Kd.R kLie 111 WX W0.heap.size (fun _ => True) (.slice OA out.length oc) out) := ⟨by rw [hWX]; exact Kd.R_alloc O9.out _⟩
              have ZX : Aside0 (W0.heap.size ≤ WX.heap.size) := ⟨by have := Z9.out; rw [hWX]; simp; omega⟩
              have HWX := Aside0.mk hWX
              clear hWX hx N9 O9
              obtain ⟨xb, hxb⟩ : ∃ b, b = w9.heap.size := ⟨_, rfl⟩
              go_wp2_with fail
              rw [← HXX.out, ← HWX.out]
              rw [← hxb] at XL ⊢
              clear hxb
              go_loopw [18, 101] (fun v18 v101 wr => ∃ q : Nat, v101 = .int .i64 (q : Int) ∧ q ≤ out.length ∧ v18 = .bool ((out.take q).any (fun y => decide (y.joint = (ia : Int)))) ∧ Aside0 (∀ p, p < q → ¬ ((out.getD p default).joint = (ia : Int) ∧ (out.getD p default).lie ≠ x)) ∧ Aside0 (Below WX.heap.size WX wr)) (fun _ v101 _ => out.length - (intOf v101).toNat)
              case atStart => exact ⟨0, rfl, Nat.zero_le _, by simp, ⟨fun p hp => by omega⟩, ⟨Below.refl _ _⟩⟩
              case round =>
                obtain ⟨q, rfl, hq, rfl, HT3, HBr⟩ := hrel
                obtain ⟨_, _, eO, hcO, hCO⟩ := Kd.R_reads OX.out
                injection eO with eO1 _ eO2
                subst eO1
                subst eO2
                have hmO := hCO.2.1
                have HCO := Aside0.mk hCO
                clear hCO
                by_cases hlt3 : q < out.length
                · obtain ⟨adO, eO, z0, z1⟩ := at_Lie HCO.out q hlt3
                  subst eO
                  replace z0 := pw_cell_below HBr.out z0
                  replace z1 := pw_cell_below HBr.out z1
                  have htk := any_take (f := fun y : LieT => decide (y.joint = (ia : Int))) hlt3
                  obtain ⟨⟨yj, yl⟩, hy⟩ : ∃ y, y = out.getD q default := ⟨_, rfl⟩
                  rw [← hy] at z0 z1 htk
                  have HY := Aside0.mk hy.symm
                  have XL7 := Aside0.mk ((XL.out.below HBr.out).alloc (.cells #[.int .i64 yj, .int .i64 yl] 111))
                  have B7 := Aside0.mk (below_alloc HBr.out (.cells #[.int .i64 yj, .int .i64 yl] 111))
                  have b0 := XL7.out.c 0 _ rfl; have b1 := XL7.out.c 1 _ rfl
                  have HTK := Aside0.mk htk
                  clear hy htk
                  by_cases h1 : yj = (ia : Int)
                  · have h1b : (yj == (ia : Int)) = true := by simpa using h1
                    by_cases h2 : yl = x
                    · have h2b : (yl != x) = false := by simpa using h2
                      have HN := Aside0.mk (show ¬ ((out.getD q default).joint = (ia : Int) ∧ (out.getD q default).lie ≠ x) by rw [HY.out]; exact fun h => h.2 h2)
                      have HD := Aside0.mk (show decide (yj = (ia : Int)) = true from decide_eq_true h1)
                      clear h1 h2
                      go_wp2_with fail
                      go_roundw
                      case rel => exact ⟨q + 1, by go_num, by omega, by rw [HTK.out]; simp only [HD.out, Bool.or_true], ⟨upto_step HT3.out HN.out⟩, B7⟩
                      case measure => simp [intOf]; omega
                    · have h2b : (yl != x) = true := by simpa using h2
                      have HV := Aside0.mk (pl_fail (HP.out.bad hlt (HSL0.out.trans HST.out) (addLie_bad hlt3 (by rw [HY.out]; exact h1) (by rw [HY.out]; exact h2))))
                      have BR := Aside0.mk (below_more BX.out B7.out)
                      clear h1 h2
                      go_wp2_with fail
                      refine bodyPost_ret (v := .tuple #[.slice none 0 0, .bool false]) (by simp [results, Try.results146, go_sem]) rfl ⟨.slice none 0 0, by rw [HV.out.1], by rw [HV.out.2]; exact Kd.R_nil .., BR.out⟩
                  · have h1b : (yj == (ia : Int)) = false := by simpa using h1
                    have HN := Aside0.mk (show ¬ ((out.getD q default).joint = (ia : Int) ∧ (out.getD q default).lie ≠ x) by rw [HY.out]; exact fun h => h1 h.1)
                    have HD := Aside0.mk (show decide (yj = (ia : Int)) = false from decide_eq_false h1)
                    clear h1
                    go_wp2_with fail
                    go_roundw
                    case rel => exact ⟨q + 1, by go_num, by omega, by rw [HTK.out]; simp only [HD.out, Bool.or_false], ⟨upto_step HT3.out HN.out⟩, B7⟩
                    case measure => simp [intOf]; omega
                · have hqo : out.take q = out := List.take_of_length_le (by omega)
                  have HADD := Aside0.mk (addLie_end (out := out) (x := ⟨(ia : Int), x⟩) (fun p hp => HT3.out p (by omega)))
                  rw [hqo]
                  obtain ⟨m, hm⟩ : ∃ m, m = out.any (fun y => decide (y.joint = (ia : Int))) := ⟨_, rfl⟩
                  simp only at HADD
                  rw [← hm] at HADD ⊢
                  have NR := Aside0.mk (NX.out.below HBr.out)
                  have BR := Aside0.mk (below_more BX.out HBr.out)
                  have OR := Aside0.mk (Kd.R_below OX.out HBr.out)
                  have XR := Aside0.mk (XL.out.below HBr.out)
                  have ZR := Aside0.mk (show W0.heap.size ≤ wr.heap.size by have h1 := ZX.out; have h3 := HBr.out.size; omega)
                  clear hm hqo
                  cases m with
                  | true =>
                    rw [if_pos rfl] at HADD
                    go_wp2_with fail
                    go_roundw
                    case rel => exact ⟨i + 1, OA, oc, out, rfl, by go_num, by omega, ⟨HP.out.add hlt (HSL0.out.trans HST.out) HADD.out⟩, OR, NR, BR, ZR.out⟩
                    case measure => simp [intOf]; omega
                  | false =>
                    rw [if_neg (by decide)] at HADD
                    have x0 := XR.out.c 0 _ rfl; have x1 := XR.out.c 1 _ rfl
                    have HOL := Aside0.mk (show out.length ≤ 400 from by have := HP.out.2.1; omega)
                    have HLEN : Aside0 ((out ++ [(⟨(ia : Int), x⟩ : LieT)]).length = out.length + 1) := ⟨by simp⟩
                    go_wp2_with ((with_reducible refine gate_callP (b := .append) (xs := #[.tmp 117, .tmp 119]) rfl ?_); at_builtin; refine Kd.R_append kLie (w0 := wr) W0.heap.size rfl (.tmp 117) (.tmp 119) 95 111 (.agg #[.int .i64 0, .int .i64 0]) 16 rfl Try.underlying95 info111 rfl (by decide) (by omega) (.slice OA out.length oc) out ⟨(ia : Int), x⟩ [.int .i64 (ia : Int), .int .i64 x] (fun _ => True) (fun _ => False) rfl (by first | (go_simp; done) | (go_simp; rfl)) (kLie_mkM _ _ _ ⟨(ia : Int), x⟩) (fun _ hk => hk.elim) (fun _ _ => trivial) OR.out (Below.refl _ _) ZR.out (by have := HOL.out; omega) ?_; intro v1 w10 hR9 hB9 hG9 hat9; obtain ⟨pA1, pc1, hv9⟩ := Kd.R_slice hR9; rw [HLEN.out] at hv9; subst hv9; have R10 := Aside0.mk hR9; have G10 := Aside0.mk hG9; have B10 := Aside0.mk hB9; clear hR9 hB9 hG9 hat9)
                    go_roundw
                    case rel =>
                      refine ⟨i + 1, pA1, pc1, out ++ [(⟨(ia : Int), x⟩ : LieT)], by rw [HLEN.out], by go_num, by omega, ⟨HP.out.add hlt (HSL0.out.trans HST.out) HADD.out⟩, ⟨by rw [HLEN.out]; exact R10.out⟩, ⟨NR.out.grownP G10.out (fun he => by have h1 := Kd.R_base OR.out _ he.symm; have h2 := Z0.out; omega)⟩, ⟨?_⟩, by have h1 := B10.out.size; have h2 := ZR.out; omega⟩
                      have h2 := Z0.out
                      exact BR.out.trans ⟨B10.out.os, B10.out.tape, B10.out.output, B10.out.size, fun i hi => B10.out.block i (by omega)⟩
                    case measure => simp [intOf]; omega
            · have hk3b : (j.kind != 3) = true := by simpa using hk3
              rw [HKJ.out, if_neg hk3] at HST
              clear hk3
              go_wp2_with fail
              go_roundw
              case rel => exact ⟨i + 1, OA, oc, out, rfl, by go_num, by omega, ⟨HP.out.skip hlt (HSL0.out.trans HST.out)⟩, O8, N8, BW, Z8.out⟩
              case measure => simp [intOf]; omega
    · have HD := Aside0.mk (pl_done HSB.out (HP.out.stop (by omega)))
      go_wp2_with fail
      refine bodyPost_ret (v := .tuple #[.slice OA out.length oc, .bool true]) (by simp [results, Try.results146, go_sem]) rfl ⟨_, by rw [HD.out.1], by rw [HD.out.2]; exact Kd.R_lower HO.out (by have := Z0.out; omega), B1.out⟩
end Go.Proofs.Ytckcffjnffcjcaa
namespace Go.Proofs.Ytckcffjnffcjcaa
open Go.RowKit Go.Proofs.YtckcffjnffcjcaaW.PrintWords
theorem below_step5 {k : Nat} {W4 W5 q q0 : World} (h1 : W4.heap.size = k + 1) (h2 : W4.heap.size ≤ W5.heap.size) (h : Below k W5 q) (b : Below q.heap.size q q0) : Below k W5 q0 := below_lowerL h b (by have := h.size; omega)
theorem below_set5 {B : Nat} {a w : World} {g j : Nat} {v : Value} (h : Below B a w) (hg : B ≤ g) : Below B a (w.setCell ⟨g, j, none⟩ v) := h.setCell hg _
theorem grown_set5 (w : World) (b i : Nat) (v : Value) : w.grownBy (w.setCell ⟨b, i, none⟩ v) (some b) :=
  ⟨rfl, rfl, rfl, by simp [World.setCell], fun k _ hk => Below.heap_setCell _ _ _ _ (fun e => hk (by simp [e]))⟩
theorem R_uptoL {α : Type} {d : Kd α} {e : Nat} {w : World} {base : Nat} {ok : Nat → Prop} {v : Value} {xs : List α} (h : d.R e w base ok v xs) : d.R e w base (fun k => k < w.heap.size) v xs := Kd.R_mono (Kd.R_bound h) (fun k hk => hk.2.2.1)
theorem R_beside {α : Type} {d : Kd α} {e base g g' i : Nat} {W : World} {v u : Value} {xs : List α} (h : d.R e W base (fun k => k < g') v xs) (hg : g' ≤ g) : d.R e (W.setCell ⟨g, i, none⟩ u) base (fun k => k < g') v xs :=
  Kd.R_grown h (grown_set5 W g i u) (fun k hk he => by injection he with he; omega)
theorem below_less1 {a b : Nat} {w w1 : World} (h : Below a w w1) (hb : b ≤ a) : Below b w w1 := ⟨h.os, h.tape, h.output, h.size, fun k hk => h.block k (by omega)⟩
theorem below_alloc5 {B : Nat} {a w : World} (hB : B ≤ a.heap.size) (h : Below B a w) (o : Obj) : Below B a (w.alloc o) :=
  below_lowerL h (below_less1 (below_alloc (Below.refl _ _) o) (show B ≤ w.heap.size from Nat.le_trans hB h.size)) (Nat.le_refl _)
set_option maxRecDepth 100000 in
set_option maxHeartbeats 8000000 in
theorem l4path_any (n : NetT) (u : (Option Addr × Nat) × (Option Addr × Nat)) (x : CarT) (A : Option Addr) (c : Nat) (w : World) (hr : RdNet 67 w u n) (hg : Good n) (hC : Kd.C kStep w A x.steps.length x.steps) (hs : stepsB n x.steps = true) :
    Calls Try.prog 154 #[.agg #[.slice u.1.1 n.pieces.length u.1.2, .slice u.2.1 n.joints.length u.2.2], .agg #[.int .i64 x.spot.piece, .int .i64 x.spot.at_, .int .i64 x.spot.way, .int .i64 x.far, .slice A x.steps.length c]] w
      fun e w' => ∃ lv, e = .returned (.agg #[.bool true, .int .i64 x.far, .slice A x.steps.length c, lv]) ∧ Kd.R kLie 111 w' w.heap.size (fun _ => True) lv (plV n x.steps) ∧ Below w.heap.size w w' := by
  obtain ⟨⟨A0, c0⟩, ⟨A1, c1⟩⟩ := u
  obtain ⟨⟨xp, xa, xw⟩, xf, l⟩ := x
  simp only at hC hs ⊢
  have HR := Aside0.mk hr
  have HG := Aside0.mk hg
  have HC := Aside0.mk hC
  have HSB := Aside0.mk hs
  obtain ⟨W0, hW0, hN, hX, fb0, hz0⟩ := box2 w [.slice A0 n.pieces.length c0, .slice A1 n.joints.length c1] [.int .i64 xp, .int .i64 xa, .int .i64 xw, .int .i64 xf, .slice A l.length c] 35 172
  obtain ⟨W1, hW1⟩ : ∃ W1, W1 = W0.alloc (.cells #[.bool false, .int .i64 0, .slice none 0 0, .slice none 0 0] 108) := ⟨_, rfl⟩
  have FB := Aside0.mk (show Below w.heap.size w W1 by rw [hW1]; exact below_alloc fb0 _)
  have HN : Aside0 (Bx W1 w.heap.size [.slice A0 n.pieces.length c0, .slice A1 n.joints.length c1]) := ⟨by rw [hW1]; exact hN.alloc _⟩
  have HX : Aside0 (Bx W1 (w.heap.size + 1) [.int .i64 xp, .int .i64 xa, .int .i64 xw, .int .i64 xf, .slice A l.length c]) := ⟨by rw [hW1]; exact hX.alloc _⟩
  have HP : Aside0 (Bx W1 (w.heap.size + 1 + 1) [.bool false, .int .i64 0, .slice none 0 0, .slice none 0 0]) := ⟨by rw [hW1, show w.heap.size + 1 + 1 = W0.heap.size by omega]; exact Bx.new W0 _ 108⟩
  have HW : Aside0 (W1 = ((w.alloc (.cells #[.slice A0 n.pieces.length c0, .slice A1 n.joints.length c1] 35)).alloc (.cells #[.int .i64 xp, .int .i64 xa, .int .i64 xw, .int .i64 xf, .slice A l.length c] 172)).alloc (.cells #[.bool false, .int .i64 0, .slice none 0 0, .slice none 0 0] 108)) := ⟨by rw [hW1, hW0]⟩
  have HZ : Aside0 (w.heap.size + 1 + 1 < W1.heap.size) := ⟨HP.out.lt⟩
  clear hr hg hC hs hW0 hN hX fb0 hz0 hW1
  go_enter Try.func154, Try.ntmps154
  go_upto_region 1 with (fail)
  rw [← HW.out]
  have n0 := HN.out.c 0 _ rfl; have n1 := HN.out.c 1 _ rfl
  have x4 := HX.out.c 4 _ rfl
  go_wp2_with fail
  (with_reducible refine Calls.mono (specPL_any n ((A0, c0), (A1, c1)) A c l _ (HR.out.below FB.out) HG.out (Kd.C_below HC.out FB.out) HSB.out) ?_)
  rintro e w2 ⟨lv, rfl, rl, b2⟩
  obtain ⟨LA, lc, el⟩ := Kd.R_slice rl
  subst el
  have RL := Aside0.mk rl
  have X2 := Aside0.mk (HX.out.below b2)
  have P2 := Aside0.mk (HP.out.below b2)
  have B2 := Aside0.mk (below_more FB.out b2)
  clear n0 n1 x4 rl b2
  have x3 := X2.out.c 3 _ rfl; have x4 := X2.out.c 4 _ rfl
  have pl := P2.out.lt
  have p0 := P2.out.c 0 _ rfl; have p1 := P2.out.c 1 _ rfl; have p2 := P2.out.c 2 _ rfl; have p3 := P2.out.c 3 _ rfl
  have pf0 := P2.out.f 0; have pf1 := P2.out.f 1; have pf2 := P2.out.f 2; have pf3 := P2.out.f 3
  go_wp2_with fail
  refine bodyPost_ret (v := .agg #[.bool true, .int .i64 xf, .slice A l.length c, .slice LA (plV n l).length lc]) (by simp [results, Try.results154, go_sem, p0, p1, p2, p3, pf0, pf1, pf2, pf3, pl]) rfl ?_
  have hz := HZ.out
  refine ⟨_, rfl, ?_, ?_⟩
  · refine Kd.R_lower (base := W1.heap.size) ?_ (by omega)
    repeat (first | exact RL.out | refine R_apart ?_ (show w.heap.size + 1 + 1 < W1.heap.size by omega) _)
  · have hfb := B2.out
    repeat (first | exact hfb | refine below_set ?_ (show w.heap.size ≤ w.heap.size + 1 + 1 by omega))
def Five (W : World) (g : Nat) : Prop := ∃ a0 a1 a2 a3 a4, Bx W g [a0, a1, a2, a3, a4]
theorem Five.alloc {W : World} {g : Nat} (h : Five W g) (o : Obj) : Five (W.alloc o) g := by obtain ⟨a0, a1, a2, a3, a4, h⟩ := h; exact ⟨a0, a1, a2, a3, a4, h.alloc _⟩
theorem Five.below {W W1 : World} {g : Nat} (h : Five W g) (hb : Below W.heap.size W W1) : Five W1 g := by obtain ⟨a0, a1, a2, a3, a4, h⟩ := h; exact ⟨a0, a1, a2, a3, a4, h.below hb⟩
theorem Five.s0 {W : World} {g : Nat} (h : Five W g) (v : Value) : Five (W.setCell ⟨g, 0, none⟩ v) g := by obtain ⟨a0, a1, a2, a3, a4, h⟩ := h; exact ⟨v, a1, a2, a3, a4, h.set (i := 0) (by simp) v⟩
theorem Five.s1 {W : World} {g : Nat} (h : Five W g) (v : Value) : Five (W.setCell ⟨g, 1, none⟩ v) g := by obtain ⟨a0, a1, a2, a3, a4, h⟩ := h; exact ⟨a0, v, a2, a3, a4, h.set (i := 1) (by simp) v⟩
theorem Five.s2 {W : World} {g : Nat} (h : Five W g) (v : Value) : Five (W.setCell ⟨g, 2, none⟩ v) g := by obtain ⟨a0, a1, a2, a3, a4, h⟩ := h; exact ⟨a0, a1, v, a3, a4, h.set (i := 2) (by simp) v⟩
theorem Five.s3 {W : World} {g : Nat} (h : Five W g) (v : Value) : Five (W.setCell ⟨g, 3, none⟩ v) g := by obtain ⟨a0, a1, a2, a3, a4, h⟩ := h; exact ⟨a0, a1, a2, v, a4, h.set (i := 3) (by simp) v⟩
theorem Five.s4 {W : World} {g : Nat} (h : Five W g) (v : Value) : Five (W.setCell ⟨g, 4, none⟩ v) g := by obtain ⟨a0, a1, a2, a3, a4, h⟩ := h; exact ⟨a0, a1, a2, a3, v, h.set (i := 4) (by simp) v⟩
structure BB (n : NetT) (a b : SpotT) (base g : Nat) (W : World) (ok : Bool) (x : CarT) (A : Option Addr) (c : Nat) : Prop where
  bx : Bx W g [.int .i64 x.spot.piece, .int .i64 x.spot.at_, .int .i64 x.spot.way, .int .i64 x.far, .slice A x.steps.length c]
  rs : Kd.R kStep 85 W base (fun _ => True) (.slice A x.steps.length c) x.steps
theorem BB.below {n : NetT} {a b : SpotT} {base g : Nat} {W W1 : World} {ok : Bool} {x : CarT} {A : Option Addr} {c : Nat} (h : BB n a b base g W ok x A c) (hb : Below W.heap.size W W1) : BB n a b base g W1 ok x A c := ⟨h.bx.below hb, Kd.R_below h.rs hb⟩
set_option maxRecDepth 100000 in
set_option maxHeartbeats 16000000 in
theorem specShortest_any (n : NetT) (u : (Option Addr × Nat) × (Option Addr × Nat)) (a b : SpotT) (w : World) (hr : RdNet 67 w u n) (hf : NetFits n) (h9 : n.pieces.length ≤ 9) :
    Calls Try.prog 91 #[.agg #[.slice u.1.1 n.pieces.length u.1.2, .slice u.2.1 n.joints.length u.2.2], .agg #[.int .i64 a.piece, .int .i64 a.at_, .int .i64 a.way], .agg #[.int .i64 b.piece, .int .i64 b.at_, .int .i64 b.way]] w
      fun e w' => PathR w w' e (shortestV n a b) := by
  obtain ⟨⟨A0, c0⟩, ⟨A1, c1⟩⟩ := u
  have HR := Aside0.mk hr
  have HF := Aside0.mk hf
  have H9 := Aside0.mk h9
  obtain ⟨oa, hoa⟩ : ∃ g, g = spotOkB n a := ⟨_, rfl⟩
  obtain ⟨ob, hob⟩ : ∃ g, g = spotB n b := ⟨_, rfl⟩
  have HOA := Aside0.mk hoa.symm
  have HOB := Aside0.mk hob.symm
  obtain ⟨ap, aa, aw⟩ := a
  obtain ⟨bp, ba, bw⟩ := b
  obtain ⟨W0, hW0, hN, hS, hT, fb0⟩ := box3T w [.slice A0 n.pieces.length c0, .slice A1 n.joints.length c1] [.int .i64 ap, .int .i64 aa, .int .i64 aw] [.int .i64 bp, .int .i64 ba, .int .i64 bw] 35 38 38
  have hz0 : W0.heap.size = w.heap.size + 1 + 1 + 1 := by rw [hW0]; simp
  obtain ⟨W1, hW1⟩ : ∃ W1, W1 = W0.alloc (.cells #[.bool false, .int .i64 0, .slice none 0 0, .slice none 0 0] 108) := ⟨_, rfl⟩
  have FB := Aside0.mk (show Below w.heap.size w W1 by rw [hW1]; exact below_alloc fb0 _)
  have HN : Aside0 (Bx W1 w.heap.size [.slice A0 n.pieces.length c0, .slice A1 n.joints.length c1]) := ⟨by rw [hW1]; exact hN.alloc _⟩
  have HS : Aside0 (Bx W1 (w.heap.size + 1) [.int .i64 ap, .int .i64 aa, .int .i64 aw]) := ⟨by rw [hW1]; exact hS.alloc _⟩
  have HT : Aside0 (Bx W1 (w.heap.size + 1 + 1) [.int .i64 bp, .int .i64 ba, .int .i64 bw]) := ⟨by rw [hW1]; exact hT.alloc _⟩
  have HP : Aside0 (Bx W1 (w.heap.size + 1 + 1 + 1) [.bool false, .int .i64 0, .slice none 0 0, .slice none 0 0]) := ⟨by rw [hW1, ← hz0]; exact Bx.new W0 _ 108⟩
  have HW : Aside0 (W1 = (((w.alloc (.cells #[.slice A0 n.pieces.length c0, .slice A1 n.joints.length c1] 35)).alloc (.cells #[.int .i64 ap, .int .i64 aa, .int .i64 aw] 38)).alloc (.cells #[.int .i64 bp, .int .i64 ba, .int .i64 bw] 38)).alloc (.cells #[.bool false, .int .i64 0, .slice none 0 0, .slice none 0 0] 108)) := ⟨by rw [hW1, hW0]⟩
  clear hr hf h9 hoa hob hW0 hN hS hT fb0 hz0 hW1
  go_enter Try.func91, Try.ntmps91
  go_upto_region 1 with (fail)
  rw [← HW.out]
  have n0 := HN.out.c 0 _ rfl; have n1 := HN.out.c 1 _ rfl
  have s0 := HS.out.c 0 _ rfl; have s1 := HS.out.c 1 _ rfl; have s2 := HS.out.c 2 _ rfl
  go_wp2_with fail
  (with_reducible refine Calls.mono (specSpotOk_any n ((A0, c0), (A1, c1)) ⟨ap, aa, aw⟩ _ (HR.out.below FB.out) HF.out) ?_)
  rintro e w2 ⟨rfl, b2⟩
  rw [HOA.out]
  have N2 := Aside0.mk (HN.out.below b2)
  have S2 := Aside0.mk (HS.out.below b2)
  have T2 := Aside0.mk (HT.out.below b2)
  have P2 := Aside0.mk (HP.out.below b2)
  have B2 := Aside0.mk (below_more FB.out b2)
  clear n0 n1 s0 s1 s2 b2
  cases oa with
  | false =>
    have HV : Aside0 (shortestV n ⟨ap, aa, aw⟩ ⟨bp, ba, bw⟩ = noPath) := ⟨by unfold shortestV; rw [HOA.out]; rfl⟩
    have pl := P2.out.lt
    have p0 := P2.out.c 0 _ rfl; have p1 := P2.out.c 1 _ rfl; have p2 := P2.out.c 2 _ rfl; have p3 := P2.out.c 3 _ rfl
    have pf0 := P2.out.f 0; have pf1 := P2.out.f 1; have pf2 := P2.out.f 2; have pf3 := P2.out.f 3
    go_wp2_with fail
    refine bodyPost_ret (v := .agg #[.bool false, .int .i64 0, .slice none 0 0, .slice none 0 0]) (by simp [results, Try.results91, go_sem, p0, p1, p2, p3, pf0, pf1, pf2, pf3, pl]) rfl ?_
    rw [HV.out]
    refine PathR.no ?_
    have hfb := B2.out
    repeat (first | exact hfb | refine below_set ?_ (show w.heap.size ≤ w.heap.size + 1 + 1 + 1 by omega))
  | true =>
    have n0 := N2.out.c 0 _ rfl; have n1 := N2.out.c 1 _ rfl
    have t0 := T2.out.c 0 _ rfl; have t1 := T2.out.c 1 _ rfl; have t2 := T2.out.c 2 _ rfl
    go_wp2_with fail
    (with_reducible refine Calls.mono (l3spot_any n ((A0, c0), (A1, c1)) ⟨bp, ba, bw⟩ _ (HR.out.below B2.out)) ?_)
    rintro e w3 ⟨rfl, b3⟩
    rw [HOB.out]
    have N3 := Aside0.mk (N2.out.below b3)
    have S3 := Aside0.mk (S2.out.below b3)
    have T3 := Aside0.mk (T2.out.below b3)
    have P3 := Aside0.mk (P2.out.below b3)
    have B3 := Aside0.mk (below_more B2.out b3)
    clear n0 n1 t0 t1 t2 b3
    cases ob with
    | false =>
      have HV : Aside0 (shortestV n ⟨ap, aa, aw⟩ ⟨bp, ba, bw⟩ = noPath) := ⟨by unfold shortestV; rw [HOB.out, if_neg (by simp)]⟩
      have pl := P3.out.lt
      have p0 := P3.out.c 0 _ rfl; have p1 := P3.out.c 1 _ rfl; have p2 := P3.out.c 2 _ rfl; have p3 := P3.out.c 3 _ rfl
      have pf0 := P3.out.f 0; have pf1 := P3.out.f 1; have pf2 := P3.out.f 2; have pf3 := P3.out.f 3
      go_wp2_with fail
      refine bodyPost_ret (v := .agg #[.bool false, .int .i64 0, .slice none 0 0, .slice none 0 0]) (by simp [results, Try.results91, go_sem, p0, p1, p2, p3, pf0, pf1, pf2, pf3, pl]) rfl ?_
      rw [HV.out]
      refine PathR.no ?_
      have hfb := B3.out
      repeat (first | exact hfb | refine below_set ?_ (show w.heap.size ≤ w.heap.size + 1 + 1 + 1 by omega))
    | true =>
      have hgb : netGood n = true ∧ spotB n ⟨ap, aa, aw⟩ = true := by
        have h := HOA.out
        unfold spotOkB at h
        simpa using h
      have HV : Aside0 (shortestV n ⟨ap, aa, aw⟩ ⟨bp, ba, bw⟩ = shortV n ⟨ap, aa, aw⟩ ⟨bp, ba, bw⟩) := ⟨by unfold shortestV; rw [HOA.out, HOB.out]; rfl⟩
      have HG := Aside0.mk (Good.of hgb.1)
      have HSA := Aside0.mk hgb.2
      have hba := spotB_iff.1 hgb.2
      have hbb := spotB_iff.1 HOB.out
      have hla := HG.out.len hba.1 hba.2.1
      have hlb := HG.out.len hbb.1 hbb.2.1
      have HBA := Aside0.mk hba
      have HBB := Aside0.mk hbb
      have HLB := Aside0.mk hlb
      have HLA := Aside0.mk hla
      obtain ⟨W4, hW4⟩ : ∃ W4, W4 = w3.alloc (.cells #[.int .i64 0, .int .i64 0, .int .i64 0, .int .i64 0, .slice none 0 0] 172) := ⟨_, rfl⟩
      have b4 : Below w3.heap.size w3 W4 := by rw [hW4]; exact below_alloc (Below.refl _ _) _
      have X4 : Aside0 (Bx W4 w3.heap.size [.int .i64 0, .int .i64 0, .int .i64 0, .int .i64 0, .slice none 0 0]) := ⟨by rw [hW4]; exact Bx.new w3 _ 172⟩
      have N4 := Aside0.mk (N3.out.below b4)
      have S4 := Aside0.mk (S3.out.below b4)
      have T4 := Aside0.mk (T3.out.below b4)
      have P4 := Aside0.mk (P3.out.below b4)
      have B4 := Aside0.mk (below_more B3.out b4)
      have HZ4 : Aside0 (W4.heap.size = w3.heap.size + 1 ∧ w.heap.size + 1 + 1 + 1 < w3.heap.size) := ⟨by rw [hW4]; simp, P3.out.lt⟩
      have HW4 := Aside0.mk hW4
      clear hgb hba hbb hla hlb hW4 b4
      go_upto_region 4 with (fail)
      rw [← HW4.out]
      obtain ⟨di, hdi⟩ : ∃ d, d = directB ⟨ap, aa, aw⟩ ⟨bp, ba, bw⟩ := ⟨_, rfl⟩
      have HDI := Aside0.mk hdi.symm
      go_upto_region 5 with (fail)
      have hwd : IntKind.i64.wrap (ba - aa) = ba - aa := by
        have h1 := HBA.out; have h2 := HBB.out; have h3 := HLA.out; have h4 := HLB.out
        exact wrap64 (by omega) (by omega)
      have hwm : IntKind.i64.wrap ((ba - aa) * aw) = (ba - aa) * aw := by
        have h1 := HBA.out; have h2 := HBB.out; have h3 := HLA.out; have h4 := HLB.out
        rcases h1.2.2.1 with h | h <;> rw [h]
        · exact wrap64 (by omega) (by omega)
        · exact wrap64 (by omega) (by omega)
      clear hdi
      go_cut [46] (fun s W => s = .bool di ∧ Aside0 (Below W4.heap.size W4 W))
      case first =>
        have s0 := S4.out.c 0 _ rfl; have s1 := S4.out.c 1 _ rfl; have s2 := S4.out.c 2 _ rfl
        have t0 := T4.out.c 0 _ rfl; have t1 := T4.out.c 1 _ rfl; have t2 := T4.out.c 2 _ rfl
        by_cases h1 : ap = bp
        · by_cases h2 : aw = bw
          · by_cases h3 : 0 ≤ (ba - aa) * aw
            · have hd : di = true := by rw [← HDI.out]; unfold directB; simp only [decide_eq_true_eq]; exact ⟨h1, h2, h3⟩
              subst hd
              have e1 : (ap == bp) = true := by simpa using h1
              have e2 : (aw == bw) = true := by simpa using h2
              clear h1 h2
              go_wp2_with fail
              go_meet
              case rel => exact ⟨rfl, ⟨Below.refl _ _⟩⟩
            · have hd : di = false := by rw [← HDI.out]; unfold directB; exact decide_eq_false (fun h => h3 h.2.2)
              subst hd
              have e1 : (ap == bp) = true := by simpa using h1
              have e2 : (aw == bw) = true := by simpa using h2
              clear h1 h2
              go_wp2_with fail
              go_meet
              case rel => exact ⟨rfl, ⟨Below.refl _ _⟩⟩
          · have hd : di = false := by rw [← HDI.out]; unfold directB; exact decide_eq_false (fun h => h2 h.2.1)
            subst hd
            have e1 : (ap == bp) = true := by simpa using h1
            have e2 : (aw == bw) = false := by simpa using h2
            clear h1 h2
            go_wp2_with fail
            go_meet
            case rel => exact ⟨rfl, ⟨Below.refl _ _⟩⟩
        · have hd : di = false := by rw [← HDI.out]; unfold directB; exact decide_eq_false (fun h => h1 h.1)
          subst hd
          have e1 : (ap == bp) = false := by simpa using h1
          clear h1
          go_wp2_with fail
          go_meet
          case rel => exact ⟨rfl, ⟨Below.refl _ _⟩⟩
      case rest =>
      obtain ⟨rfl, Q5⟩ := hcut
      obtain ⟨W5, hW5⟩ : ∃ W5, W5 = wc := ⟨_, rfl⟩
      subst hW5
      have X5 := Aside0.mk (X4.out.below Q5.out)
      have N5 := Aside0.mk (N4.out.below Q5.out)
      have S5 := Aside0.mk (S4.out.below Q5.out)
      have T5 := Aside0.mk (T4.out.below Q5.out)
      have P5 := Aside0.mk (P4.out.below Q5.out)
      have B5 := Aside0.mk (below_more B4.out Q5.out)
      have HZ5 : Aside0 (W4.heap.size ≤ W5.heap.size) := ⟨Q5.out.size⟩
      go_upto_if 46 with (fail)
      go_cut [8] (fun s8 W => ∃ (x : CarT) (BA : Option Addr) (bc : Nat), s8 = .bool di ∧ Aside0 (di = true → x = directC ⟨ap, aa, aw⟩ ⟨bp, ba, bw⟩) ∧ Aside0 (BB n ⟨ap, aa, aw⟩ ⟨bp, ba, bw⟩ W4.heap.size w3.heap.size W di x BA bc) ∧ Aside0 (Below w3.heap.size W5 W))
      case first =>
        cases di with
        | false =>
          go_wp2_with fail
          go_meet
          case rel => exact ⟨⟨⟨0, 0, 0⟩, 0, []⟩, none, 0, rfl, ⟨fun h => (by cases h)⟩, ⟨⟨X5.out, Kd.R_nil ..⟩⟩, ⟨Below.refl _ _⟩⟩
        | true =>
          have HZ45 : Aside0 (w3.heap.size ≤ W5.heap.size) := ⟨by have := HZ4.out; have := HZ5.out; omega⟩
          have F5 : Aside0 (Five W5 w3.heap.size) := ⟨⟨_, _, _, _, _, X5.out⟩⟩
          have F5d : Aside0 (Five W5.drew w3.heap.size) := ⟨F5.out.below (Below.drew (Below.refl _ _))⟩
          have HS0 : Aside0 (∀ W, Below w3.heap.size W5 W → Five W w3.heap.size → (Below w3.heap.size W5 W ∧ W.cell? ⟨w.heap.size + 1, 0, none⟩ = some (.int .i64 ap) ∧ W.cell? ⟨w.heap.size + 1, 1, none⟩ = some (.int .i64 aa) ∧ W.cell? ⟨w.heap.size + 1, 2, none⟩ = some (.int .i64 aw) ∧ W.cell? ⟨w.heap.size + 1 + 1, 0, none⟩ = some (.int .i64 bp) ∧ W.cell? ⟨w.heap.size + 1 + 1, 1, none⟩ = some (.int .i64 ba) ∧ W.cell? ⟨w.heap.size + 1 + 1, 2, none⟩ = some (.int .i64 bw) ∧ Five W w3.heap.size)) := ⟨fun W hb hf => ⟨hb, (S5.out.underL hb (by have := HZ4.out; omega)).c 0 _ rfl, (S5.out.underL hb (by have := HZ4.out; omega)).c 1 _ rfl, (S5.out.underL hb (by have := HZ4.out; omega)).c 2 _ rfl, (T5.out.underL hb (by have := HZ4.out; omega)).c 0 _ rfl, (T5.out.underL hb (by have := HZ4.out; omega)).c 1 _ rfl, (T5.out.underL hb (by have := HZ4.out; omega)).c 2 _ rfl, hf⟩⟩
          go_wp2_with fail
          go_region_held3 (fun W => Below w3.heap.size W5 W ∧ W.cell? ⟨w.heap.size + 1, 0, none⟩ = some (.int .i64 ap) ∧ W.cell? ⟨w.heap.size + 1, 1, none⟩ = some (.int .i64 aa) ∧ W.cell? ⟨w.heap.size + 1, 2, none⟩ = some (.int .i64 aw) ∧ W.cell? ⟨w.heap.size + 1 + 1, 0, none⟩ = some (.int .i64 bp) ∧ W.cell? ⟨w.heap.size + 1 + 1, 1, none⟩ = some (.int .i64 ba) ∧ W.cell? ⟨w.heap.size + 1 + 1, 2, none⟩ = some (.int .i64 bw) ∧ Five W w3.heap.size)
            (first | (with_reducible assumption) | (with_reducible exact HS0.out _ (by repeat (first | (with_reducible assumption) | (with_reducible refine below_set5 ?_ (Nat.le_refl _)) | (with_reducible refine below_alloc5 HZ45.out ?_ _) | (with_reducible refine Below.drew ?_) | (with_reducible exact Below.refl _ _))) (by repeat (first | (with_reducible assumption) | (with_reducible exact F5.out) | (with_reducible refine Five.alloc ?_ _) | (with_reducible refine Five.s4 ?_ _) | (with_reducible refine Five.s3 ?_ _) | (with_reducible refine Five.s2 ?_ _) | (with_reducible refine Five.s1 ?_ _) | (with_reducible refine Five.s0 ?_ _) | (with_reducible exact F5d.out)))))
            (first
              | (go_at_call 152; go_split_ands; (with_reducible refine Calls.mono (l4step_any ⟨ap, aa, aw⟩ _) ?_); rintro e q0 ⟨rfl, b3⟩; simp only; have hfv : Five q0 w3.heap.size := Five.below (by with_reducible assumption) b3; have hq : Below w3.heap.size W5 q0 := below_step5 HZ4.out.1 HZ5.out (by with_reducible assumption) b3; obtain ⟨y0, y1, y2, y3, y4, HXQ0⟩ := id hfv; have HXQ := Aside0.mk HXQ0; clear HXQ0; have HQ := Aside0.mk hq; have xl := HXQ.out.lt; have x0 := HXQ.out.c 0 _ rfl; have x1 := HXQ.out.c 1 _ rfl; have x2 := HXQ.out.c 2 _ rfl; have x3 := HXQ.out.c 3 _ rfl; have x4 := HXQ.out.c 4 _ rfl; have xf0 := HXQ.out.f 0; have xf1 := HXQ.out.f 1; have xf2 := HXQ.out.f 2; have xf3 := HXQ.out.f 3; have xf4 := HXQ.out.f 4; clear b3))
          all_goals
            try go_wp2_with fail
            go_meet
            case rel =>
              refine ⟨directC ⟨ap, aa, aw⟩ ⟨bp, ba, bw⟩, some ⟨q0.heap.size, 0, none⟩, 1, rfl, ⟨fun _ => rfl⟩, ⟨⟨?_, ?_⟩⟩, ⟨?_⟩⟩
              · exact ((((((HXQ.out.set (i := 0) (by simp) _).set (i := 1) (by simp) _).set (i := 2) (by simp) _).set (i := 3) (by simp) _).set (i := 4) (by simp) _).alloc _)
              · refine R_step1 _ (stepOf ⟨ap, aa, aw⟩) (by simp) ?_
                have hz := HZ4.out
                have hz5 := HZ5.out
                have hzq := HQ.out.size
                simp
                omega
              · have hq := HQ.out
                repeat (first | (with_reducible exact hq) | (with_reducible refine below_set5 ?_ (Nat.le_refl _)) | (with_reducible refine below_alloc5 HZ45.out ?_ _))
      case rest =>
      obtain ⟨x, BA, bc, rfl, HXD, HBX, Q6⟩ := hcut
      obtain ⟨W6, hW6⟩ : ∃ W6, W6 = wc := ⟨_, rfl⟩
      subst hW6
      have HZ45 : Aside0 (w3.heap.size ≤ W5.heap.size ∧ w3.heap.size = W4.heap.size - 1 ∧ w.heap.size + 1 + 1 + 1 < w3.heap.size ∧ W4.heap.size ≤ W6.heap.size ∧ w3.heap.size < W4.heap.size) := ⟨by have h1 := HZ4.out; have h2 := HZ5.out; have h3 := Q6.out.size; omega⟩
      have N6 := Aside0.mk (N5.out.underL Q6.out (by have := HZ45.out; omega))
      have S6 := Aside0.mk (S5.out.underL Q6.out (by have := HZ45.out; omega))
      have T6 := Aside0.mk (T5.out.underL Q6.out (by have := HZ45.out; omega))
      have P6 := Aside0.mk (P5.out.underL Q6.out (by have := HZ45.out; omega))
      have B6 := Aside0.mk (below_lowerL B5.out Q6.out (by have := HZ45.out; omega))
      have t2 := T6.out.c 2 _ rfl
      go_upto_if 62 with (fail)
      go_cut [9] (fun s9 W => s9 = .int .i64 (sideN ⟨bp, ba, bw⟩ : Int) ∧ Aside0 (W = W6))
      case first =>
        by_cases h : bw = -1
        · have e1 : (bw == -1) = true := by simpa using h
          have e2 : (sideN ⟨bp, ba, bw⟩ : Int) = 1 := by unfold sideN; rw [if_pos h]; rfl
          have HE2 := Aside0.mk e2
          clear h e2
          go_wp2_with fail
          go_meet
          case rel => exact ⟨by rw [HE2.out], ⟨rfl⟩⟩
        · have e1 : (bw == -1) = false := by simpa using h
          have e2 : (sideN ⟨bp, ba, bw⟩ : Int) = 0 := by unfold sideN; rw [if_neg h]; rfl
          have HE2 := Aside0.mk e2
          clear h e2
          go_wp2_with fail
          go_meet
          case rel => exact ⟨by rw [HE2.out], ⟨rfl⟩⟩
      case rest =>
      obtain ⟨rfl, HWC⟩ := hcut
      have hwc := HWC.out.symm
      subst hwc
      obtain ⟨sd, hsd⟩ : ∃ s : Nat, s = sideN ⟨bp, ba, bw⟩ := ⟨_, rfl⟩
      have hkn := num_spot HOB.out
      simp only at hkn
      rw [← hsd] at hkn
      rw [← hsd]
      have hsd1 : sd ≤ 1 := by rw [hsd]; unfold sideN; split <;> omega
      have hkl := numS_lt (stepOf_ok HOB.out)
      obtain ⟨k, hk⟩ : ∃ k, k = numS (stepOf ⟨bp, ba, bw⟩) := ⟨_, rfl⟩
      rw [← hk] at hkn hkl
      have HKK := Aside0.mk hk
      have HKL := Aside0.mk hkl
      have HKN := Aside0.mk hkn
      have HSD1 := Aside0.mk hsd1
      clear t2 hsd hkn hsd1 hkl hk
      have n0 := N6.out.c 0 _ rfl; have n1 := N6.out.c 1 _ rfl
      have s0 := S6.out.c 0 _ rfl; have s1 := S6.out.c 1 _ rfl; have s2 := S6.out.c 2 _ rfl
      go_wp2_with fail
      (with_reducible refine Calls.mono (l4from_any n ((A0, c0), (A1, c1)) ⟨ap, aa, aw⟩ _ (HR.out.below B6.out) HG.out HSA.out H9.out) ?_)
      rintro e w7 ⟨sv, hh, fl, rfl, hcr, hok, b7⟩
      have hkl : k < fl.length := by rw [hok.len]; exact HKL.out
      obtain ⟨ad, cc, B, d, es, y0, y1, y2, y3, y4, hRS⟩ := hcr.at_ hkl
      subst es
      obtain ⟨⟨⟨yp, ya, yw⟩, yf, ys⟩, hy⟩ : ∃ y, y = fl.getD k default := ⟨_, rfl⟩
      rw [← hy] at y0 y1 y2 y3 y4 hRS
      simp only at y0 y1 y2 y3 y4 hRS
      have HNN : Aside0 (shortL n (stepOf ⟨ap, aa, aw⟩) (stepOf ⟨bp, ba, bw⟩) = none → yf = -1) := ⟨fun h => by
        have := hok.none_ (stepOf ⟨bp, ba, bw⟩) (stepOf_ok HOB.out) h
        rw [← HKK.out, ← hy] at this
        exact this⟩
      have HSS : Aside0 (∀ l, shortL n (stepOf ⟨ap, aa, aw⟩) (stepOf ⟨bp, ba, bw⟩) = some l → 0 ≤ yf ∧ yf ≤ 10000000 * ((l.length : Int) + 1) ∧ yf = (carOf n ⟨ap, aa, aw⟩ l).far ∧ ys = (carOf n ⟨ap, aa, aw⟩ l).steps ∧ l.length ≤ 19) := ⟨fun l h => by
        have h1 := hok.some_ (stepOf ⟨bp, ba, bw⟩) l (stepOf_ok HOB.out) h
        rw [← HKK.out, ← hy] at h1
        have h2 := farW_bd HG.out HSA.out (l := l) (shortL_is h).f
        have h3 : l.length ≤ 19 := by
          rcases shortL_cases HG.out (stepOf_ok HSA.out) (t := stepOf ⟨bp, ba, bw⟩) with ⟨l', e1, _, q2⟩ | ⟨e1, _⟩
          · rw [h] at e1
            injection e1 with e1
            subst e1
            have := H9.out
            omega
          · rw [h] at e1; cases e1
        have h4 : yf = (carOf n ⟨ap, aa, aw⟩ l).far := by rw [← h1]
        have h5 : ys = (carOf n ⟨ap, aa, aw⟩ l).steps := by rw [← h1]
        have h6 : (carOf n ⟨ap, aa, aw⟩ l).far = farW n ⟨ap, aa, aw⟩ l := rfl
        exact ⟨by omega, by omega, h4, h5, h3⟩⟩
      have hwa : IntKind.i64.wrap (2 * bp) = 2 * bp := by have h1 := HBB.out; have h2 := H9.out; exact wrap64 (by omega) (by omega)
      have hwb : IntKind.i64.wrap (2 * bp + (sd : Int)) = (k : Int) := by rw [HKN.out]; have h1 := HKL.out; have h2 := H9.out; exact wrap64 (by omega) (by omega)
      have hk0 : (0 : Int) ≤ (k : Int) := by omega
      have hk1 : (k : Int) < (fl.length : Int) := by omega
      obtain ⟨W8, hW8⟩ : ∃ W8, W8 = w7.alloc (.cells #[.int .i64 yp, .int .i64 ya, .int .i64 yw, .int .i64 yf, .slice B ys.length d] 172) := ⟨_, rfl⟩
      have b8 : Below w7.heap.size w7 W8 := by rw [hW8]; exact below_alloc (Below.refl _ _) _
      have X8 : Aside0 (Bx W8 w7.heap.size [.int .i64 yp, .int .i64 ya, .int .i64 yw, .int .i64 yf, .slice B ys.length d]) := ⟨by rw [hW8]; exact Bx.new w7 _ 172⟩
      have b68 := below_more b7 b8
      have N8 := Aside0.mk (N6.out.below b68)
      have T8 := Aside0.mk (T6.out.below b68)
      have P8 := Aside0.mk (P6.out.below b68)
      have B8 := Aside0.mk (below_more B6.out b68)
      have HB8 := Aside0.mk (HBX.out.below b68)
      have R8 := Aside0.mk (Kd.R_lower (Kd.R_below (R_uptoL hRS) b8) (show W4.heap.size ≤ W6.heap.size from HZ45.out.2.2.2.1))
      have RB8 : Aside0 (Kd.R kStep 85 W8 W4.heap.size (fun k => k < w7.heap.size) (.slice BA x.steps.length bc) x.steps) := ⟨Kd.R_below (Kd.R_mono (Kd.R_bound (Kd.R_below HBX.out.rs b7)) (fun k hk => hk.2.2.1)) b8⟩
      have HZ8 : Aside0 (w3.heap.size < w7.heap.size) := ⟨by have h1 := HZ45.out; have h2 := b7.size; omega⟩
      have HW8 := Aside0.mk hW8
      have t0 := (T6.out.below b7).c 0 _ rfl
      clear hkl hcr hok b7 b8 b68 hW8 hRS hy n0 n1 s0 s1 s2
      go_upto_region 13 with (fail)
      rw [← HW8.out]
      clear y0 y1 y2 y3 y4 hk0 hk1 hwa hwb t0
      have x3 := X8.out.c 3 _ rfl
      go_upto_if 76 with (fail)
      go_cut [8] (fun s8 W => ∃ (ok : Bool) (y : CarT) (YA : Option Addr) (yc : Nat), s8 = .bool ok ∧ Aside0 (BestIs n ⟨ap, aa, aw⟩ ⟨bp, ba, bw⟩ ok y) ∧ Aside0 (BB n ⟨ap, aa, aw⟩ ⟨bp, ba, bw⟩ W4.heap.size w3.heap.size W ok y YA yc) ∧ Aside0 (Below w3.heap.size W8 W))
      case first =>
        obtain ⟨sh, hsh⟩ : ∃ sh, sh = shortL n (stepOf ⟨ap, aa, aw⟩) (stepOf ⟨bp, ba, bw⟩) := ⟨_, rfl⟩
        have HSH := Aside0.mk hsh.symm
        clear hsh
        cases sh with
        | none =>
          have hyf := HNN.out HSH.out
          subst hyf
          have HBI : Aside0 (BestIs n ⟨ap, aa, aw⟩ ⟨bp, ba, bw⟩ di x) := ⟨by
            cases di with
            | true => rw [HXD.out rfl]; exact BestIs.direct HDI.out
            | false => exact BestIs.none_ HDI.out HSH.out⟩
          go_wp2_with fail
          go_meet
          case rel => exact ⟨di, x, BA, bc, rfl, HBI, ⟨⟨HB8.out.bx, HB8.out.rs⟩⟩, ⟨Below.refl _ _⟩⟩
        | some l =>
          obtain ⟨hyf0, hyf1, hyfe, hyse, hl19⟩ := HSS.out l HSH.out
          have hib := inOf_bd HOB.out
          obtain ⟨ib, hib1⟩ : ∃ i, i = inOf n ⟨bp, ba, bw⟩ := ⟨_, rfl⟩
          rw [← hib1] at hib
          have HIB := Aside0.mk hib1
          have HYE := Aside0.mk hyfe
          have HYS := Aside0.mk hyse
          have HFB := Aside0.mk (show 0 ≤ yf ∧ yf ≤ 200000000 ∧ 0 ≤ ib ∧ ib ≤ 10000000 by have h1 := HLB.out; (try simp only at hib); omega)
          have hge : (0 : Int) ≤ yf := hyf0
          have t1 := T8.out.c 1 _ rfl; have t2 := T8.out.c 2 _ rfl
          clear hyf0 hyf1 hyfe hyse hl19 hib hib1
          go_upto_if 81 with (fail)
          go_cut [12] (fun s12 W => s12 = .int .i64 ib ∧ Aside0 (Below W8.heap.size W8 W))
          case first =>
            by_cases h : bw = -1
            · have e1 : (bw == -1) = true := by simpa using h
              obtain ⟨pn, hpn⟩ := Int.eq_ofNat_of_zero_le HBB.out.1
              (try simp only at hpn)
              have hpl : pn < n.pieces.length := by have := HBB.out.2.1; (try simp only at this); omega
              obtain ⟨ad0, ea, z0, z1, z2, z3⟩ := at_Piece (HR.out.below B8.out).1.1 pn hpl
              simp only at ea
              subst ea
              obtain ⟨L, hL⟩ : ∃ L, L = (n.pieces.getD pn default).len := ⟨_, rfl⟩
              rw [← hL] at z1
              have hlp : lenP n bp = L := by rw [hpn]; unfold lenP; rw [Int.toNat_natCast, hL]
              have hlb := HLB.out
              have hxb := HBB.out
              (try simp only at hlb hxb)
              rw [hlp] at hlb hxb
              have hw : IntKind.i64.wrap (L - ba) = ib := by
                have h1 := HIB.out
                unfold inOf at h1
                (try simp only at h1)
                rw [if_pos h, hlp] at h1
                rw [h1]
                exact wrap64 (by omega) (by omega)
              have n0 := N8.out.c 0 _ rfl
              have t0 := T8.out.c 0 _ rfl
              have hp0 : (0 : Int) ≤ (pn : Int) := by omega
              have hp1 : (pn : Int) < (n.pieces.length : Int) := by omega
              rw [hpn] at t0
              clear hL hlp hlb hxb z0 z2 z3 h hpn
              go_wp2_with fail
              go_quiet (fail)
              all_goals
                try go_wp2_with fail
                go_meet
                case rel => exact ⟨rfl, ⟨below_drewN' (Below.refl _ _) _⟩⟩
            · have e1 : (bw == -1) = false := by simpa using h
              have e2 : Aside0 (ba = ib) := ⟨by rw [HIB.out]; unfold inOf; rw [if_neg h]⟩
              clear h
              go_wp2_with fail
              go_meet
              case rel => exact ⟨by rw [e2.out], ⟨Below.refl _ _⟩⟩
          case rest =>
          obtain ⟨rfl, Q9⟩ := hcut
          obtain ⟨W9, hW9⟩ : ∃ W9, W9 = wc := ⟨_, rfl⟩
          subst hW9
          have X9 := Aside0.mk (X8.out.below Q9.out)
          have HB9 := Aside0.mk (HB8.out.below Q9.out)
          have R9 := Aside0.mk (Kd.R_below R8.out Q9.out)
          have RB9 := Aside0.mk (Kd.R_below RB8.out Q9.out)
          obtain ⟨nf, hnf⟩ : ∃ f, f = yf + ib := ⟨_, rfl⟩
          have HNF := Aside0.mk hnf
          have hwn : IntKind.i64.wrap (yf + ib) = nf := by rw [hnf]; have h1 := HFB.out; exact wrap64 (by omega) (by omega)
          clear x3 t1 t2 hnf
          have x3 := X9.out.c 3 _ rfl; have xl := X9.out.lt; have xf3 := X9.out.f 3
          obtain ⟨W10, hW10⟩ : ∃ W10, W10 = W9.setCell ⟨w7.heap.size, 3, none⟩ (.int .i64 nf) := ⟨_, rfl⟩
          have X10 : Aside0 (Bx W10 w7.heap.size [.int .i64 yp, .int .i64 ya, .int .i64 yw, .int .i64 nf, .slice B ys.length d]) := ⟨by rw [hW10]; exact X9.out.set (i := 3) (by simp) _⟩
          have HB10 : Aside0 (Bx W10 w3.heap.size [.int .i64 x.spot.piece, .int .i64 x.spot.at_, .int .i64 x.spot.way, .int .i64 x.far, .slice BA x.steps.length bc]) := ⟨by rw [hW10]; exact HB9.out.bx.far (by have := HZ8.out; omega) _⟩
          have R10 : Aside0 (Kd.R kStep 85 W10 W4.heap.size (fun k => k < w7.heap.size) (.slice B ys.length d) ys) := ⟨by rw [hW10]; exact R_beside R9.out (Nat.le_refl _)⟩
          have RB10 : Aside0 (Kd.R kStep 85 W10 W4.heap.size (fun k => k < w7.heap.size) (.slice BA x.steps.length bc) x.steps) := ⟨by rw [hW10]; exact R_beside RB9.out (Nat.le_refl _)⟩
          have Q10 : Aside0 (Below w3.heap.size W8 W10) := ⟨by rw [hW10]; exact below_set5 (below_less1 Q9.out (by have h1 := HZ8.out; have h2 := X8.out.lt; omega)) (by have h1 := HZ8.out; omega)⟩
          have HW10 := Aside0.mk hW10
          clear hW10
          go_upto_region 18 with (fail)
          rw [← HW10.out]
          clear x3 xl xf3 hwn
          cases di with
          | false =>
            have HBI : Aside0 (BestIs n ⟨ap, aa, aw⟩ ⟨bp, ba, bw⟩ true ⟨⟨yp, ya, yw⟩, nf, ys⟩) := ⟨BestIs.way HDI.out HSH.out (by rw [HNF.out, HYE.out, HIB.out]) HYS.out⟩
            have c0' := X10.out.c 0 _ rfl; have c1' := X10.out.c 1 _ rfl; have c2' := X10.out.c 2 _ rfl; have c3' := X10.out.c 3 _ rfl; have c4' := X10.out.c 4 _ rfl
            have bl := HB10.out.lt
            have b0' := HB10.out.c 0 _ rfl; have b1' := HB10.out.c 1 _ rfl; have b2' := HB10.out.c 2 _ rfl; have b3' := HB10.out.c 3 _ rfl; have b4' := HB10.out.c 4 _ rfl
            have bf0 := HB10.out.f 0; have bf1 := HB10.out.f 1; have bf2 := HB10.out.f 2; have bf3 := HB10.out.f 3; have bf4 := HB10.out.f 4
            go_wp2_with fail
            go_meet
            case rel =>
              refine ⟨true, ⟨⟨yp, ya, yw⟩, nf, ys⟩, B, d, rfl, HBI, ⟨⟨?_, ?_⟩⟩, ⟨?_⟩⟩
              · exact (((((HB10.out.set (i := 0) (by simp) _).set (i := 1) (by simp) _).set (i := 2) (by simp) _).set (i := 3) (by simp) _).set (i := 4) (by simp) _)
              · have hz := HZ45.out
                refine Kd.R_mono (ok := fun k => k < w7.heap.size) ?_ (fun _ _ => trivial)
                repeat (first | (with_reducible exact R10.out) | (with_reducible refine R_apart ?_ (show w3.heap.size < W4.heap.size by omega) _))
              · repeat (first | (with_reducible exact Q10.out) | (with_reducible refine below_set5 ?_ (Nat.le_refl _)))
          | true =>
            have HLF : Aside0 (lessCar ⟨⟨yp, ya, yw⟩, nf, ys⟩ x = false) := ⟨by rw [HXD.out rfl]; exact direct_least HG.out HSA.out HOB.out HDI.out HSH.out (by rw [HNF.out, HYE.out, HIB.out]) HYS.out⟩
            have HBI : Aside0 (BestIs n ⟨ap, aa, aw⟩ ⟨bp, ba, bw⟩ true x) := ⟨by rw [HXD.out rfl]; exact BestIs.direct HDI.out⟩
            have c0' := X10.out.c 0 _ rfl; have c1' := X10.out.c 1 _ rfl; have c2' := X10.out.c 2 _ rfl; have c3' := X10.out.c 3 _ rfl; have c4' := X10.out.c 4 _ rfl
            have b0' := HB10.out.c 0 _ rfl; have b1' := HB10.out.c 1 _ rfl; have b2' := HB10.out.c 2 _ rfl; have b3' := HB10.out.c 3 _ rfl; have b4' := HB10.out.c 4 _ rfl
            go_wp2_with fail
            (with_reducible refine Calls.mono (l4less_any ⟨⟨yp, ya, yw⟩, nf, ys⟩ x B d BA bc _ (Kd.R_reads' R10.out).2.2 (Kd.R_reads' RB10.out).2.2) ?_)
            rintro e w11 ⟨rfl, b11⟩
            rw [HLF.out]
            have HB11 := Aside0.mk (HB10.out.below b11)
            have RB11 := Aside0.mk (Kd.R_below RB10.out b11)
            have Q11 : Aside0 (Below w3.heap.size W8 w11) := ⟨below_lowerL Q10.out b11 (by have := HB10.out.lt; omega)⟩
            clear b11 c0' c1' c2' c3' c4' b0' b1' b2' b3' b4'
            go_wp2_with fail
            go_meet
            case rel => exact ⟨true, x, BA, bc, rfl, HBI, ⟨⟨HB11.out, Kd.R_mono RB11.out (fun _ _ => trivial)⟩⟩, Q11⟩
      case rest =>
      obtain ⟨ok, y, YA, yc, rfl, HBI, HBY, Q12⟩ := hcut
      obtain ⟨W12, hW12⟩ : ∃ W12, W12 = wc := ⟨_, rfl⟩
      subst hW12
      have N12 := Aside0.mk (N8.out.underL Q12.out (by have := HZ45.out; omega))
      have P12 := Aside0.mk (P8.out.underL Q12.out (by have := HZ45.out; omega))
      have B12 := Aside0.mk (below_lowerL B8.out Q12.out (by have := HZ45.out; omega))
      clear x3
      cases ok with
      | false =>
        have HV2 : Aside0 (shortestV n ⟨ap, aa, aw⟩ ⟨bp, ba, bw⟩ = noPath) := ⟨by rw [HV.out]; exact short_no HBI.out.ok_.symm⟩
        have pl := P12.out.lt
        have p0 := P12.out.c 0 _ rfl; have p1 := P12.out.c 1 _ rfl; have p2 := P12.out.c 2 _ rfl; have p3 := P12.out.c 3 _ rfl
        have pf0 := P12.out.f 0; have pf1 := P12.out.f 1; have pf2 := P12.out.f 2; have pf3 := P12.out.f 3
        go_wp2_with fail
        refine bodyPost_ret (v := .agg #[.bool false, .int .i64 0, .slice none 0 0, .slice none 0 0]) (by simp [results, Try.results91, go_sem, p0, p1, p2, p3, pf0, pf1, pf2, pf3, pl]) rfl ?_
        rw [HV2.out]
        refine PathR.no ?_
        have hfb := B12.out
        repeat (first | exact hfb | refine below_set ?_ (show w.heap.size ≤ w.heap.size + 1 + 1 + 1 by omega))
      | true =>
        have hst := short_steps HG.out HSA.out HBI.out.ok_.symm
        have HST := Aside0.mk hst
        have n0 := N12.out.c 0 _ rfl; have n1 := N12.out.c 1 _ rfl
        have b0' := HBY.out.bx.c 0 _ rfl; have b1' := HBY.out.bx.c 1 _ rfl; have b2' := HBY.out.bx.c 2 _ rfl; have b3' := HBY.out.bx.c 3 _ rfl; have b4' := HBY.out.bx.c 4 _ rfl
        clear hst
        go_wp2_with fail
        (with_reducible refine Calls.mono (l4path_any n ((A0, c0), (A1, c1)) y YA yc _ (HR.out.below B12.out) HG.out (Kd.R_reads' HBY.out.rs).2.2 (by rw [HBI.out.steps rfl]; exact HST.out.1)) ?_)
        rintro e w13 ⟨lv, rfl, rl, b13⟩
        obtain ⟨LA, lc, el⟩ := Kd.R_slice rl
        subst el
        have RL := Aside0.mk rl
        have RS := Aside0.mk (Kd.R_below HBY.out.rs b13)
        have P13 := Aside0.mk (P12.out.below b13)
        have B13 := Aside0.mk (below_more B12.out b13)
        have HZ12 := Aside0.mk (show w.heap.size + 1 + 1 + 1 < W12.heap.size from P12.out.lt)
        clear rl b13 n0 n1 b0' b1' b2' b3' b4'
        have pl := P13.out.lt
        have p0 := P13.out.c 0 _ rfl; have p1 := P13.out.c 1 _ rfl; have p2 := P13.out.c 2 _ rfl; have p3 := P13.out.c 3 _ rfl
        have pf0 := P13.out.f 0; have pf1 := P13.out.f 1; have pf2 := P13.out.f 2; have pf3 := P13.out.f 3
        go_wp2_with fail
        refine bodyPost_ret (v := .agg #[.bool true, .int .i64 y.far, .slice YA y.steps.length yc, .slice LA (plV n y.steps).length lc]) (by simp [results, Try.results91, go_sem, p0, p1, p2, p3, pf0, pf1, pf2, pf3, pl]) rfl ?_
        rw [HV.out]
        have hz := HZ12.out
        have hz2 := HZ45.out
        refine ⟨.slice YA y.steps.length yc, .slice LA (plV n y.steps).length lc, by rw [← HBI.out.ok_, ← HBI.out.far rfl], ?_, ?_, ?_⟩
        · rw [← HBI.out.steps rfl]
          refine Kd.R_lower (base := W4.heap.size) ?_ (by omega)
          repeat (first | exact RS.out | refine R_apart ?_ (show w.heap.size + 1 + 1 + 1 < W4.heap.size by omega) _)
        · rw [HST.out.2, ← HBI.out.steps rfl]
          refine Kd.R_lower (base := W12.heap.size) ?_ (by omega)
          repeat (first | exact RL.out | refine R_apart ?_ (show w.heap.size + 1 + 1 + 1 < W12.heap.size by omega) _)
        · have hfb := B13.out
          repeat (first | exact hfb | refine below_set ?_ (show w.heap.size ≤ w.heap.size + 1 + 1 + 1 by omega))
end Go.Proofs.Ytckcffjnffcjcaa
namespace Go.Proofs.Ytckcffjnffcjcaa
open Go.RowKit Go.Proofs.YtckcffjnffcjcaaW.PrintWords in
theorem box3S (w : World) (a b c : List Value) (s t r : TypeId) : ∃ W0, W0 = ((w.alloc (.cells a.toArray s)).alloc (.cells b.toArray t)).alloc (.cells c.toArray r) ∧ Bx W0 w.heap.size a ∧ Bx W0 (w.heap.size + 1) b ∧ Bx W0 (w.heap.size + 1 + 1) c ∧ Below w.heap.size w W0 := by
  obtain ⟨W0, h0, hN, hS, fb, hz⟩ := box2 w a b s t
  refine ⟨_, rfl, ?_, ?_, ?_, ?_⟩
  · rw [← h0]; exact hN.alloc _
  · rw [← h0]; exact hS.alloc _
  · rw [← h0]; exact Bx.new' _ _ _ hz.symm
  · rw [← h0]; exact below_alloc fb _
theorem partsGo_snoc (n : NetT) (x : SpotT) : ∀ (l : List SpotT) (left : Int), partsGo n (l ++ [x]) left = ((partsGo n l left).1 ++ [partOf x (legOf n x (partsGo n l left).2)], (partsGo n l left).2 - legOf n x (partsGo n l left).2)
  | [], left => by simp [partsGo]
  | y :: l, left => by
    simp only [List.cons_append, partsGo]
    rw [partsGo_snoc n x l]
def spotAt (n : NetT) (a : SpotT) (l : List StepT) (i : Nat) : SpotT := if i = 0 then a else enterS n (beginS (l.getD i default))
theorem spotsOf_len {n : NetT} {a : SpotT} {l : List StepT} (h : 0 < l.length) : (spotsOf n a l).length = l.length := by
  unfold spotsOf; simp; omega
theorem spotsOf_at {n : NetT} {a : SpotT} {l : List StepT} {i : Nat} (h : i < l.length) : (spotsOf n a l).getD i default = spotAt n a l i := by
  unfold spotsOf spotAt
  cases i with
  | zero => rfl
  | succ i =>
    rw [if_neg (by omega), List.getD_cons_succ]
    cases l with
    | nil => simp at h
    | cons s l =>
      have hi : i < l.length := by simpa using h
      rw [List.tail_cons, List.getD_cons_succ]
      simp [List.getD, hi]
theorem spotsOf_take {n : NetT} {a : SpotT} {l : List StepT} {i : Nat} (h : i < l.length) : (spotsOf n a l).take (i + 1) = (spotsOf n a l).take i ++ [spotAt n a l i] := by
  rw [take_getD _ i (by rw [spotsOf_len (by omega)]; exact h), spotsOf_at h]
structure SG (n : NetT) (far : Int) (a : SpotT) (l : List StepT) (i : Nat) (ps : List PartT) (left : Int) : Prop where
  is : partsGo n ((spotsOf n a l).take i) far = (ps, left)
  len : ps.length = i
  l0 : 0 ≤ left
  l1 : left ≤ 1000000
theorem SG.start {n : NetT} {far : Int} {a : SpotT} {l : List StepT} (h0 : 0 ≤ far) (h1 : far ≤ 1000000) : SG n far a l 0 [] far := ⟨rfl, rfl, h0, h1⟩
theorem SG.next {n : NetT} {far : Int} {a : SpotT} {l : List StepT} {i : Nat} {ps : List PartT} {left : Int} (h : SG n far a l i ps left) (hi : i < l.length) {x : SpotT} (hx : x = spotAt n a l i) (hr : 0 ≤ roomS n x) :
    SG n far a l (i + 1) (ps ++ [partOf x (legOf n x left)]) (left - legOf n x left) := by
  have h0 := h.l0
  have h1 := h.l1
  refine ⟨?_, by rw [List.length_append, h.len]; rfl, by unfold legOf; omega, by unfold legOf; omega⟩
  rw [spotsOf_take hi, partsGo_snoc, h.is, ← hx]
theorem SG.stop {n : NetT} {far : Int} {a : SpotT} {l : List StepT} {i : Nat} {ps : List PartT} {left : Int} (h : SG n far a l i ps left) (hl : 0 < l.length) (hi : l.length ≤ i) : partsGo n (spotsOf n a l) far = (ps, left) := by
  have := h.is
  rwa [List.take_of_length_le (by rw [spotsOf_len hl]; exact hi)] at this
theorem spotAt_ok {n : NetT} (hg : Good n) {a : SpotT} (ha : spotB n a = true) {l : List StepT} (hl : stepsB n l = true) {i : Nat} (hi : i < l.length) : spotB n (spotAt n a l i) = true ∧ (i ≠ 0 → endB n (beginS (l.getD i default)) = true) := by
  have hall : stepB n (l.getD i default) = true := by
    unfold stepsB at hl
    simp only [Bool.and_eq_true, List.all_eq_true] at hl
    exact hl.2 _ (getD_mem l i hi)
  have hb := beginS_ok hall
  refine ⟨?_, fun _ => hb⟩
  unfold spotAt
  split
  · exact ha
  · exact enterS_ok hg hb
theorem spotAt_piece {n : NetT} {a : SpotT} {l : List StepT} (h0 : l.getD 0 default = stepOf a) {i : Nat} : (spotAt n a l i).piece = (l.getD i default).piece := by
  unfold spotAt
  split
  · rename_i h; subst h; rw [h0]; rfl
  · rw [enterS_piece]; rfl
section
variable {n : NetT} {p : PathT} {a : SpotT}
theorem stretch_bad (h : stretchOk n p a = false) : stretchV n p a = [] := by unfold stretchV; rw [h]; rfl
theorem str_ok (h : p.ok = false) : stretchV n p a = [] := stretch_bad (by unfold stretchOk; rw [h]; simp)
theorem str_good (h : netGood n = false) : stretchV n p a = [] := stretch_bad (by unfold stretchOk spotOkB; rw [h]; simp)
theorem str_spot (h : spotB n a = false) : stretchV n p a = [] := stretch_bad (by unfold stretchOk spotOkB; rw [h]; simp)
theorem str_far (h : ¬ (0 ≤ p.far ∧ p.far ≤ 1000000)) : stretchV n p a = [] := stretch_bad (by unfold stretchOk; rw [decide_eq_false h]; simp)
theorem str_nil (h : p.steps.length = 0) : stretchV n p a = [] := stretch_bad (by
  have : p.steps = [] := List.eq_nil_of_length_eq_zero h
  unfold stretchOk; rw [this]; simp)
theorem head_getD {l : List StepT} (h : 0 < l.length) : l.head? = some (l.getD 0 default) := by
  cases l with
  | nil => simp at h
  | cons s l => rfl
theorem str_head (h0 : 0 < p.steps.length) (h : p.steps.getD 0 default ≠ stepOf a) : stretchV n p a = [] := stretch_bad (by
  unfold stretchOk
  rw [head_getD h0, decide_eq_false (p := some (p.steps.getD 0 default) = some (stepOf a)) (fun e => h (by injection e))]
  simp)
theorem str_lies (h : plOk n p.steps = false) : stretchV n p a = [] := stretch_bad (by
  unfold plOk at h
  unfold stretchOk
  cases h1 : stepsB n p.steps with
  | false => simp
  | true =>
    rw [h1, Bool.true_and] at h
    rw [h]; simp)
theorem str_long (h : 400 < p.steps.length) : stretchV n p a = [] := str_lies (by unfold plOk; rw [steps_long h]; rfl)
theorem str_one {i : Nat} (hi : i < p.steps.length) (h : stepB n (p.steps.getD i default) = false) : stretchV n p a = [] := str_lies (by unfold plOk; rw [steps_one hi h]; rfl)
theorem str_done (h1 : p.ok = true) (h2 : netGood n = true) (h3 : spotB n a = true) (h4 : 0 ≤ p.far ∧ p.far ≤ 1000000) (h5 : 0 < p.steps.length) (h6 : p.steps.getD 0 default = stepOf a) (h7 : plOk n p.steps = true) {ps : List PartT} {left : Int} (h : partsGo n (spotsOf n a p.steps) p.far = (ps, left)) :
    stretchV n p a = if 0 < left then [] else ps := by
  unfold plOk at h7
  simp only [Bool.and_eq_true] at h7
  have : stretchOk n p a = true := by
    unfold stretchOk spotOkB
    rw [h1, h2, h3, decide_eq_true h4, h7.1, h7.2, head_getD h5, h6]
    simp
  unfold stretchV
  rw [this, h]
  rfl
end
end Go.Proofs.Ytckcffjnffcjcaa
