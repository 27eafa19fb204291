/- Contract of the program's pathLies. Conditions: the net is good. -/
import Derived.Test.YtckcffjnffcjcaaPl2
import Derived.Test.YtckcffjnffcjcaaPlMap
import Derived.Test.YtckcffjnffcjcaaOver2
import Derived.Test.YtckcffjnffcjcaaTos
import Derived.Outline
set_option linter.unusedVariables false
set_option linter.unusedSimpArgs false
namespace Go.Proofs.Ytckcffjnffcjcaa
open Go.RowKit Go.Proofs.YtckcffjnffcjcaaW.PrintWords
def plOk (n : NetT) (l : List StepT) : Bool := stepsB n l && (liesAll n l).isSome
def plV (n : NetT) (l : List StepT) : List LieT := if stepsB n l = true then (liesAll n l).getD [] else []
theorem pl_bad {n : NetT} {l : List StepT} (h : stepsB n l = false) : plOk n l = false ∧ plV n l = [] := by
  unfold plOk plV; rw [h]; exact ⟨rfl, rfl⟩
theorem steps_long {n : NetT} {l : List StepT} (h : 400 < l.length) : stepsB n l = false := by
  unfold stepsB; rw [decide_eq_false (by omega)]; rfl
theorem steps_one {n : NetT} {l : List StepT} {i : Nat} (hi : i < l.length) (h : stepB n (l.getD i default) = false) : stepsB n l = false := by
  unfold stepsB
  have : l.all (stepB n) = false := by
    rw [List.all_eq_false]
    exact ⟨_, getD_mem l i hi, by rw [h]; simp⟩
  rw [this, Bool.and_false]
theorem steps_all' {n : NetT} {l : List StepT} (h : l.length ≤ 400) (h2 : ∀ k, k < l.length → stepB n (l.getD k default) = true) : stepsB n l = true := by
  unfold stepsB
  rw [decide_eq_true h, Bool.true_and, List.all_eq_true]
  intro x hx
  obtain ⟨k, hk, rfl⟩ := List.mem_iff_getElem.1 hx
  have := h2 k hk
  rwa [getD_at l k hk] at this
theorem across_both {n : NetT} (hg : Good n) {s : StepT} (hs : stepB n s = true) {e : EndT} (he : e = lookS s) : acrossG n e = acrossE n (lookS s) ∧ howG n e = howJ (jOf n (lookS s)) (kOf n (lookS s)) := by
  subst he
  obtain ⟨i, q, hat⟩ := hg.at_ (lookS_ok hs)
  obtain ⟨h1, h2⟩ := acrossG_at hat
  unfold acrossE
  rw [h1, h2, hat.j, hat.k]
  exact ⟨rfl, rfl⟩
theorem pl_fail {n : NetT} {l : List StepT} (h : liesAll n l = none) : plOk n l = false ∧ plV n l = [] := by
  unfold plOk plV
  rw [h]
  refine ⟨by simp, by simp⟩
theorem pl_done {n : NetT} {l : List StepT} (hs : stepsB n l = true) {out : List LieT} (h : liesAll n l = some out) : plOk n l = true ∧ plV n l = out := by
  unfold plOk plV
  rw [h, hs]
  exact ⟨rfl, rfl⟩
theorem at_both {n : NetT} (hg : Good n) {s : StepT} (hs : stepB n s = true) {e : EndT} (he : e = lookS s) : atEnd n e = ((iOf n (lookS s) : Int), (atEnd n e).2) := by
  subst he
  obtain ⟨i, q, hat⟩ := hg.at_ (lookS_ok hs)
  rw [hat.i, hat.eq]
def ptrOf : Value → Addr
  | .pointer (some a) => a
  | _ => ⟨0, 0, none⟩
set_option maxRecDepth 100000 in
set_option maxHeartbeats 8000000 in
theorem implPL_any (n : NetT) (u : (Option Addr × Nat) × (Option Addr × Nat)) (A : Option Addr) (c : Nat) (l : List StepT) (w : World) (hr : RdNet 67 w u n) (hg : Good n) (hC : Kd.C kStep w A l.length l) :
    Calls Try.prog 148 #[.agg #[.slice u.1.1 n.pieces.length u.1.2, .slice u.2.1 n.joints.length u.2.2], .slice A l.length c] w
      fun e w' => ∃ v, e = .returned (.tuple #[v, .bool (plOk n l)]) ∧ Kd.R kLie 111 w' w.heap.size (fun _ => True) v (plV n l) ∧ Below w.heap.size w w' := by
  have HR := Aside0.mk hr
  have HG := Aside0.mk hg
  have HC := Aside0.mk hC
  have hm0 := hr.1.1.2.1
  have hml := hC.2.1
  have hp1 := hg.p1
  obtain ⟨⟨A0, c0⟩, ⟨A1, c1⟩⟩ := u
  obtain ⟨W0, hW0⟩ : ∃ W0 : World, W0 = (w.alloc (.cells #[.slice A0 n.pieces.length c0, .slice A1 n.joints.length c1] 35)).alloc (.cells #[.slice A l.length c] 83) := ⟨_, rfl⟩
  have N0 : Aside0 (Bx W0 w.heap.size [.slice A0 n.pieces.length c0, .slice A1 n.joints.length c1]) := ⟨by rw [hW0]; exact (Bx.new w [.slice A0 n.pieces.length c0, .slice A1 n.joints.length c1] 35).alloc _⟩
  have S0 : Aside0 (Bx W0 (w.heap.size + 1) [.slice A l.length c]) := ⟨by
    have := Bx.new (w.alloc (.cells #[.slice A0 n.pieces.length c0, .slice A1 n.joints.length c1] 35)) [.slice A l.length c] 83
    rw [hW0]; simpa using this⟩
  have B0 : Aside0 (Below w.heap.size w W0) := ⟨by rw [hW0]; exact below_two _ _ _⟩
  have HW0 := Aside0.mk hW0
  clear hr hg hC hW0
  by_cases h400 : (400 : Int) < (l.length : Int)
  · have HV := Aside0.mk (pl_bad (n := n) (steps_long (l := l) (by omega)))
    go_enter Try.func148, Try.ntmps148
    go_wp2_with fail
    refine bodyPost_ret (v := .tuple #[.slice none 0 0, .bool false]) (by simp [results, Try.results148, go_sem]) rfl ⟨.slice none 0 0, by rw [HV.out.1], by rw [HV.out.2]; exact Kd.R_nil .., below_two _ _ _⟩
  · have hmm := @run_makeMap Try.prog
    have s0 := S0.out.c 0 _ rfl
    go_enter Try.func148, Try.ntmps148
    go_wp2_with fail
    rw [← HW0.out]
    clear s0
    go_loopw [23] (fun v23 wr => ∃ i : Nat, v23 = .int .i64 (i : Int) ∧ i ≤ l.length ∧ Aside0 (∀ k, k < i → stepB n (l.getD k default) = true) ∧ Aside0 (Below W0.heap.size W0 wr)) (fun v23 _ => l.length - (intOf v23).toNat)
    case atStart => exact ⟨0, rfl, Nat.zero_le _, ⟨fun k hk => by omega⟩, ⟨Below.refl _ _⟩⟩
    case round =>
      obtain ⟨i, rfl, hi, HT, HBr⟩ := hrel
      have N1 := Aside0.mk (N0.out.below HBr.out)
      by_cases hlt : i < l.length
      · obtain ⟨ad0, e0, y0, y1⟩ := at_Step HC.out i hlt
        subst e0
        have hbw := below_more B0.out HBr.out
        replace y0 := pw_cell_below hbw y0
        replace y1 := pw_cell_below hbw y1
        have HBW := Aside0.mk hbw
        obtain ⟨⟨sp, sw⟩, hs⟩ : ∃ s, s = l.getD i default := ⟨_, rfl⟩
        rw [← hs] at y0 y1
        have N2 := Aside0.mk (N1.out.alloc (.cells #[.int .i64 sp, .int .i64 sw] 85))
        have B2 := Aside0.mk (below_alloc HBr.out (.cells #[.int .i64 sp, .int .i64 sw] 85))
        have BW2 := Aside0.mk (below_alloc hbw (.cells #[.int .i64 sp, .int .i64 sw] 85))
        have n0 := N2.out.c 0 _ rfl
        cases hb : stepB n ⟨sp, sw⟩ with
        | true =>
          obtain ⟨h0, h1, h2⟩ := stepB_iff.1 hb
          simp only at h0 h1 h2
          have HSB := Aside0.mk (show stepB n (l.getD i default) = true by rw [← hs]; exact hb)
          have q0 : ¬ sp < 0 := by omega
          have q1 : ¬ (n.pieces.length : Int) ≤ sp := by omega
          clear hs hb hbw h0 h1
          rcases h2 with h2 | h2
          · subst h2
            go_wp2_with fail
            go_roundw
            case rel => exact ⟨i + 1, by go_num, by omega, ⟨upto_step HT.out HSB.out⟩, B2⟩
            case measure => simp [intOf]; omega
          · subst h2
            go_wp2_with fail
            go_roundw
            case rel => exact ⟨i + 1, by go_num, by omega, ⟨upto_step HT.out HSB.out⟩, B2⟩
            case measure => simp [intOf]; omega
        | false =>
          have HV := Aside0.mk (pl_bad (steps_one hlt (by rw [← hs]; exact hb)))
          have hnb : ¬ (0 ≤ sp ∧ sp < (n.pieces.length : Int) ∧ (sw = 1 ∨ sw = -1)) := fun h => by rw [stepB_iff.2 h] at hb; cases hb
          clear hs hb hbw
          by_cases q0 : sp < 0
          · clear hnb
            go_wp2_with fail
            refine bodyPost_ret (v := .tuple #[.slice none 0 0, .bool false]) (by simp [results, Try.results148, go_sem]) rfl ⟨.slice none 0 0, by rw [HV.out.1], by rw [HV.out.2]; exact Kd.R_nil .., BW2.out⟩
          · by_cases q1 : (n.pieces.length : Int) ≤ sp
            · clear hnb
              go_wp2_with fail
              refine bodyPost_ret (v := .tuple #[.slice none 0 0, .bool false]) (by simp [results, Try.results148, go_sem]) rfl ⟨.slice none 0 0, by rw [HV.out.1], by rw [HV.out.2]; exact Kd.R_nil .., BW2.out⟩
            · have q2 : (sw != 1) = true := by
                have : ¬ sw = 1 := fun h => hnb ⟨by omega, by omega, .inl h⟩
                simpa using this
              have q3 : (sw != -1) = true := by
                have : ¬ sw = -1 := fun h => hnb ⟨by omega, by omega, .inr h⟩
                simpa using this
              clear hnb
              go_wp2_with fail
              refine bodyPost_ret (v := .tuple #[.slice none 0 0, .bool false]) (by simp [results, Try.results148, go_sem]) rfl ⟨.slice none 0 0, by rw [HV.out.1], by rw [HV.out.2]; exact Kd.R_nil .., BW2.out⟩
      · have HT1 := Aside0.mk (show ∀ k, k < l.length → stepB n (l.getD k default) = true from fun k hk => HT.out k (by omega))
        have HSB := Aside0.mk (steps_all' (n := n) (l := l) (by omega) HT1.out)
        have HBW := Aside0.mk (below_more B0.out HBr.out)
        have S1 := Aside0.mk (S0.out.below HBr.out)
        go_wp2_with fail
        clear hlt hi
        obtain ⟨WA, hWA⟩ : ∃ WA : World, WA = wr := ⟨_, rfl⟩
        rw [← hWA] at HBr N1 HBW S1 ⊢
        clear hWA
        go_loopw [8, 10] (fun v8 v10 wr => ∃ (j bi : Nat) (out : List LieT) (lm : List (Int × Int)) (J : Int), v10 = .pointer (some ⟨bi, 0, none⟩) ∧ J = (j : Int) ∧ 1 ≤ j ∧ j ≤ l.length + 1 ∧ Aside0 (PI n l j out) ∧ Aside0 (PJ WA wr v8 bi J out lm)) (fun v8 v10 wr => l.length + 1 - (intOf ((wr.cell? (ptrOf v10)).getD (.int .i64 0))).toNat)
        case atStart => exact ⟨1, WA.heap.size + 1, [], [], 1, rfl, rfl, Nat.le_refl _, by omega, ⟨PI.start n l⟩, ⟨PJ.start WA⟩⟩
        case round =>
          obtain ⟨j, bi, out, lm, J, rfl, hJ, hj1, hj2, HP, HQ⟩ := hrel
          have HBt := Aside0.mk (below_more HBW.out HQ.out.b0)
          have N2 := Aside0.mk (N1.out.below HQ.out.b0)
          have S2 := Aside0.mk (S1.out.below HQ.out.b0)
          have HJ := Aside0.mk hJ
          have i0 := HQ.out.box.c 0 _ rfl
          have s0 := S2.out.c 0 _ rfl
          by_cases hlt : j < l.length
          · have hJ1 : J < (l.length : Int) := by omega
            obtain ⟨k, rfl⟩ : ∃ k, j = k + 1 := ⟨j - 1, by omega⟩
            have hkl : k < l.length := by omega
            obtain ⟨ad0, e0, y0, y1⟩ := at_Step HC.out k hkl
            subst e0
            replace y0 := pw_cell_below HBt.out y0
            replace y1 := pw_cell_below HBt.out y1
            have hst := HT1.out k hkl
            have htt := HT1.out (k + 1) hlt
            have HTT := Aside0.mk htt
            obtain ⟨⟨sp, sw⟩, hs⟩ : ∃ s, s = l.getD k default := ⟨_, rfl⟩
            rw [← hs] at y0 y1 hst
            have HS := Aside0.mk hs
            have HST := Aside0.mk hst
            obtain ⟨⟨lp, ls⟩, hlk⟩ : ∃ e, e = lookS ⟨sp, sw⟩ := ⟨_, rfl⟩
            have HLK := Aside0.mk hlk.symm
            have HA := Aside0.mk (across_both HG.out hst hlk)
            have hJ2 : IntKind.i64.wrap (J - 1) = (k : Int) := by rw [wrap64 (by omega) (by omega)]; omega
            have HJ3 : Aside0 (Go.RowKit.wrap64 (J + 1) = ((k + 1 + 1 : Nat) : Int)) := ⟨by rw [hJ]; unfold Go.RowKit.wrap64; push_cast; omega⟩
            have hk0 : (0 : Int) ≤ (k : Int) := by omega
            have hk1 : (k : Int) < (l.length : Int) := by omega
            clear hs hst htt hlk hJ hj1 hj2
            have n0 := N2.out.c 0 _ rfl; have n1 := N2.out.c 1 _ rfl
            have HS0 : Aside0 (∀ W, Below wr.heap.size wr W → (Below wr.heap.size wr W ∧ W.cell? ⟨w.heap.size, 0, none⟩ = some (.slice A0 n.pieces.length c0) ∧ W.cell? ⟨w.heap.size, 1, none⟩ = some (.slice A1 n.joints.length c1) ∧ W.cell? ⟨w.heap.size + 1, 0, none⟩ = some (.slice (some ad0) l.length c) ∧ W.cell? ⟨bi, 0, none⟩ = some (.int .i64 J) ∧ W.cell? (ad0.add (k * 2)) = some (.int .i64 sp) ∧ W.cell? ⟨(ad0.add (k * 2)).block, (ad0.add (k * 2)).off + 1, none⟩ = some (.int .i64 sw))) :=
              ⟨fun W hb => ⟨hb, (N2.out.below hb).c 0 _ rfl, (N2.out.below hb).c 1 _ rfl, (S2.out.below hb).c 0 _ rfl, (HQ.out.below hb).box.c 0 _ rfl, pw_cell_below hb y0, pw_cell_below hb y1⟩⟩
            go_wp2_with fail
            go_region_held3 (fun W => Below wr.heap.size wr W ∧ W.cell? ⟨w.heap.size, 0, none⟩ = some (.slice A0 n.pieces.length c0) ∧ W.cell? ⟨w.heap.size, 1, none⟩ = some (.slice A1 n.joints.length c1) ∧ W.cell? ⟨w.heap.size + 1, 0, none⟩ = some (.slice (some ad0) l.length c) ∧ W.cell? ⟨bi, 0, none⟩ = some (.int .i64 J) ∧ W.cell? (ad0.add (k * 2)) = some (.int .i64 sp) ∧ W.cell? ⟨(ad0.add (k * 2)).block, (ad0.add (k * 2)).off + 1, none⟩ = some (.int .i64 sw))
              (first | assumption | (with_reducible exact HS0.out _ (by assumption)) | (with_reducible exact HS0.out _ (Below.drew (Below.refl _ _))))
              (first
                | (go_at_call 155; go_split_ands; (with_reducible refine Calls.mono (looked_any ⟨sp, sw⟩ _) ?_); rintro e w3 ⟨rfl, b3⟩; rw [HLK.out]; have q3 : Below wr.heap.size wr w3 := below_more (by assumption) b3; clear b3)
                | (go_at_call 136; go_split_ands; (with_reducible refine Calls.mono (over_any n ((A0, c0), (A1, c1)) ⟨lp, ls⟩ _ (HR.out.below (below_more HBt.out (by assumption))) HG.out) ?_); rintro e w4 ⟨v1, v2, rfl, hr1, hr2, b4⟩; have q4 : Below wr.heap.size wr w4 := below_more (by assumption) b4; have B4 := Aside0.mk q4; have X1 := Aside0.mk (Kd.R_lower hr1 (Below.size (w := wr) (by assumption))); have X2 := Aside0.mk (Kd.R_lower hr2 (Below.size (w := wr) (by assumption))); clear b4 hr1 hr2))
            all_goals
              rw [HA.out.1] at X1
              rw [HA.out.2] at X2
              obtain ⟨A4, c4, e4, hc4, hC4⟩ := Kd.R_reads X1.out
              obtain ⟨A5, c5, e5, hc5, hC5⟩ := Kd.R_reads X2.out
              subst e4 e5
              have HC4 := Aside0.mk hC4
              have HC5 := Aside0.mk hC5
              have hm5 := hC5.2.1
              clear hC4 hC5 hc4 hc5
              have Q4 := Aside0.mk (HQ.out.below B4.out)
              have S4 := Aside0.mk (S2.out.below B4.out)
              have N4 := Aside0.mk (N2.out.below B4.out)
              have hmf : ∀ (fn : Fn) (first cap : Array Value) (w : World), (Instr.makeFunc fn first cap).run Try.prog w = .ok (.func fn first cap) w := fun _ _ _ _ => rfl
              go_wp2_with fail
              (with_reducible refine Calls.mono (index_any A4 c4 _ (w.heap.size + 1) bi (some ad0) c l (k + 1) _ HC4.out S4.out (by rw [HJ.out] at Q4; exact Q4.out.box) (Kd.C_below HC.out (below_more HBt.out B4.out)) hlt) ?_)
              rintro e w5 ⟨r, rfl, hd, b5⟩
              have Q5 := Aside0.mk (Q4.out.below b5)
              have S5 := Aside0.mk (S4.out.below b5)
              have N5 := Aside0.mk (N4.out.below b5)
              have B5 := Aside0.mk (below_more (below_more HBt.out B4.out) b5)
              have C5 := Aside0.mk (Kd.C_below HC5.out b5)
              have y50 := pw_cell_below (below_more B4.out b5) y0
              have y51 := pw_cell_below (below_more B4.out b5) y1
              clear b5 y0 y1 i0 s0 n0 n1
              rcases hd with ⟨rfl, hn⟩ | ⟨q, rfl, hq, hc⟩
              · have HV := Aside0.mk (pl_fail (HP.out.fail hlt (show stepLie n (l.getD k default) (l.getD (k + 1) default) = none by rw [← HS.out]; exact stepLie_none HG.out HST.out HTT.out hn)))
                clear hn
                go_wp2_with fail
                refine bodyPost_ret (v := .tuple #[.slice none 0 0, .bool false]) (by simp [results, Try.results148, go_sem]) rfl ⟨.slice none 0 0, by rw [HV.out.1], by rw [HV.out.2]; exact Kd.R_nil .., B5.out⟩
              · have HSL := Aside0.mk (stepLie_some HG.out HST.out HTT.out hq hc)
                have hqh := (how_at HG.out (lookS_ok HST.out) hq).1
                obtain ⟨ad5, e5, z0⟩ := at_Int C5.out q hqh
                subst e5
                have hqi : (q : Int) < ((howJ (jOf n (lookS ⟨sp, sw⟩)) (kOf n (lookS ⟨sp, sw⟩))).length : Int) := by omega
                have hq0 : (0 : Int) ≤ (q : Int) := by omega
                have hqn : ¬ (q : Int) < 0 := by omega
                obtain ⟨LH, hLH⟩ : ∃ x, x = (howJ (jOf n (lookS ⟨sp, sw⟩)) (kOf n (lookS ⟨sp, sw⟩))).length := ⟨_, rfl⟩
                rw [← hLH] at hqi hm5 ⊢
                obtain ⟨h, hh⟩ : ∃ x, x = (howJ (jOf n (lookS ⟨sp, sw⟩)) (kOf n (lookS ⟨sp, sw⟩))).getD q 0 := ⟨_, rfl⟩
                rw [← hh] at z0 HSL
                have HBL : Aside0 (ad5.block ≠ WA.heap.size) := ⟨by
                  have h1 := Kd.R_base X2.out ad5.block rfl
                  have h2 := HQ.out.sz
                  omega⟩
                clear hq hc hqh hLH hh
                have i5 := Q5.out.box.c 0 _ rfl
                by_cases hz : h = 0
                · subst hz
                  rw [if_pos rfl] at HSL
                  go_wp2_with fail
                  go_roundw
                  case rel => exact ⟨k + 1 + 1, w5.heap.size, out, lm, _, rfl, HJ3.out, by omega, by omega, ⟨HP.out.skip hlt (show stepLie n (l.getD k default) (l.getD (k + 1) default) = some none by rw [← HS.out]; exact HSL.out)⟩, ⟨Q5.out.next _⟩⟩
                  case measure =>
                    have e1 := (Q5.out.next (Go.RowKit.wrap64 (J + 1))).box.c 0 _ rfl
                    have e2 := HQ.out.box.c 0 _ rfl
                    have e3 := HJ.out
                    simp [ptrOf, intOf, e1, e2, HJ3.out]
                    omega
                · rw [if_neg hz] at HSL
                  have hzb : (h == 0) = false := by simpa using hz
                  obtain ⟨I, hI⟩ : ∃ I, I = iOf n (lookS ⟨sp, sw⟩) := ⟨_, rfl⟩
                  obtain ⟨K, hK⟩ : ∃ K, K = (atEnd n ⟨lp, ls⟩).2 := ⟨_, rfl⟩
                  have HAT := Aside0.mk (show atEnd n ⟨lp, ls⟩ = ((I : Int), K) from by rw [hI, hK]; exact at_both HG.out HST.out HLK.out.symm)
                  rw [← hI] at HSL
                  clear hI hK hz
                  have HT0 : Aside0 (∀ W, Below w5.heap.size w5 W → (Below w5.heap.size w5 W ∧ W.cell? ⟨w.heap.size, 0, none⟩ = some (.slice A0 n.pieces.length c0) ∧ W.cell? ⟨w.heap.size, 1, none⟩ = some (.slice A1 n.joints.length c1) ∧ W.cell? ⟨w.heap.size + 1, 0, none⟩ = some (.slice (some ad0) l.length c) ∧ W.cell? ⟨bi, 0, none⟩ = some (.int .i64 J) ∧ W.cell? (ad0.add (k * 2)) = some (.int .i64 sp) ∧ W.cell? ⟨(ad0.add (k * 2)).block, (ad0.add (k * 2)).off + 1, none⟩ = some (.int .i64 sw))) :=
                    ⟨fun W hb => ⟨hb, (N5.out.below hb).c 0 _ rfl, (N5.out.below hb).c 1 _ rfl, (S5.out.below hb).c 0 _ rfl, (Q5.out.below hb).box.c 0 _ rfl, pw_cell_below hb y50, pw_cell_below hb y51⟩⟩
                  have n0 := N5.out.c 0 _ rfl; have n1 := N5.out.c 1 _ rfl; have s0 := S5.out.c 0 _ rfl
                  have Z0 := Aside0.mk z0
                  clear y50 y51
                  go_wp2_with fail
                  go_region_held3 (fun W => Below w5.heap.size w5 W ∧ W.cell? ⟨w.heap.size, 0, none⟩ = some (.slice A0 n.pieces.length c0) ∧ W.cell? ⟨w.heap.size, 1, none⟩ = some (.slice A1 n.joints.length c1) ∧ W.cell? ⟨w.heap.size + 1, 0, none⟩ = some (.slice (some ad0) l.length c) ∧ W.cell? ⟨bi, 0, none⟩ = some (.int .i64 J) ∧ W.cell? (ad0.add (k * 2)) = some (.int .i64 sp) ∧ W.cell? ⟨(ad0.add (k * 2)).block, (ad0.add (k * 2)).off + 1, none⟩ = some (.int .i64 sw))
                    (first | assumption | (with_reducible exact HT0.out _ (by assumption)) | (with_reducible exact HT0.out _ (Below.drew (Below.refl _ _))))
                    (first
                      | (go_at_call 155; go_split_ands; (with_reducible refine Calls.mono (looked_any ⟨sp, sw⟩ _) ?_); rintro e w6 ⟨rfl, b6⟩; rw [HLK.out]; have q6 : Below w5.heap.size w5 w6 := below_more (by assumption) b6; clear b6)
                      | (go_at_call 134; go_split_ands; (with_reducible refine Calls.mono (at_any n ((A0, c0), (A1, c1)) ⟨lp, ls⟩ _ (HR.out.below (below_more B5.out (by assumption)))) ?_); rintro e w7 ⟨rfl, b7⟩; rw [HAT.out]; have q7 : Below w5.heap.size w5 w7 := below_more (by assumption) b7; have B7 := Aside0.mk q7; clear b7))
                  all_goals
                    have Q7 := Aside0.mk (Q5.out.below B7.out)
                    have i7 := Q7.out.box.c 0 _ rfl
                    have z7 := pw_cell_below B7.out Z0.out
                    clear z0 i5 n0 n1 s0 Z0
                    cases hl : lk lm (I : Int) with
                    | none =>
                      have hg := lie_get Q7.out.map (I : Int)
                      rw [hl] at hg
                      simp only [Option.getD_none, Option.isSome_none] at hg
                      obtain ⟨o8, hput, hM8⟩ := lie_put Q7.out.map (I : Int) h
                      have HL := Aside0.mk hl
                      have M8 := Aside0.mk hM8
                      obtain ⟨W8, hW8⟩ : ∃ W8, W8 = putMap w7 WA.heap.size o8 := ⟨_, rfl⟩
                      have HW8 := Aside0.mk hW8
                      have z8 : W8.cell? (ad5.add q) = some (.int .i64 h) := by rw [hW8]; exact (cell_put (a := ad5.add q) (by have := HBL.out; unfold Addr.add; split <;> exact this)).trans z7
                      have hr8 := Q7.out.rowPut (o := o8)
                      have hs8 : WA.heap.size + 1 ≤ W8.heap.size := by rw [hW8]; unfold putMap; simp; exact Q7.out.sz
                      have hs8' : bi < W8.heap.size := by rw [hW8]; unfold putMap; simp; exact Q7.out.box.lt
                      rw [← hW8] at hput hr8
                      have HR8 := Aside0.mk hr8
                      have HS8 := Aside0.mk hs8
                      have HS8' := Aside0.mk hs8'
                      have HOL := Aside0.mk (show out.length ≤ 400 from by have := HP.out.2.1; omega)
                      clear hl hM8 hW8 hr8 hs8 hs8'
                      go_wp2_with ((with_reducible refine gate_callP (b := .append) (xs := #[.tmp 103, .tmp 110]) rfl ?_); at_builtin; refine Kd.R_append kLie (w0 := W8) (WA.heap.size + 1) rfl (.tmp 103) (.tmp 110) 95 111 (.agg #[.int .i64 0, .int .i64 0]) 16 rfl Try.underlying95 info111 rfl (by decide) (by omega) u8 out ⟨I, h⟩ [.int .i64 I, .int .i64 h] (fun g => g ≠ bi) (fun _ => False) rfl (by first | (go_simp; done) | (go_simp; rfl)) (kLie_mkM _ _ _ ⟨I, h⟩) (fun _ hk => hk.elim) (fun g hg => by have := HS8'.out; show g ≠ bi; omega) HR8.out (Below.refl _ _) HS8.out (by have := HOL.out; omega) ?_; intro v9 w9 hR9 hB9 hG9 hat9; have Q9 := Aside0.mk (PJ.add (x := ⟨I, h⟩) Q7.out HL.out M8.out hR9 (by rw [← HW8.out]; exact hB9) (by rw [← HW8.out]; exact hG9)); have i9 := Q9.out.box.c 0 _ rfl; clear hR9 hB9 hG9 hat9)
                      go_roundw
                      case rel => exact ⟨k + 1 + 1, w9.heap.size, _, _, _, rfl, HJ3.out, by omega, by omega, ⟨HP.out.add hlt (show stepLie n (l.getD k default) (l.getD (k + 1) default) = _ by rw [← HS.out]; exact HSL.out) (Q7.out.lies.lacks HL.out)⟩, ⟨Q9.out.next _⟩⟩
                      case measure =>
                        have e1 := (Q9.out.next (Go.RowKit.wrap64 (J + 1))).box.c 0 _ rfl
                        have e2 := HQ.out.box.c 0 _ rfl
                        have e3 := HJ.out
                        simp [ptrOf, intOf, e1, e2, HJ3.out]
                        omega
                    | some v =>
                      have hg := lie_get Q7.out.map (I : Int)
                      rw [hl] at hg
                      simp only [Option.getD_some, Option.isSome_some] at hg
                      have HAD := Aside0.mk (Q7.out.lies.has (x := ⟨I, h⟩) hl)
                      clear hl
                      by_cases hv : v = h
                      · subst hv
                        rw [if_pos rfl] at HAD
                        have hvv : (v != v) = false := by simp
                        go_wp2_with fail
                        go_roundw
                        case rel => exact ⟨k + 1 + 1, w7.heap.size, out, lm, _, rfl, HJ3.out, by omega, by omega, ⟨HP.out.add hlt (show stepLie n (l.getD k default) (l.getD (k + 1) default) = _ by rw [← HS.out]; exact HSL.out) HAD.out⟩, ⟨Q7.out.next _⟩⟩
                        case measure =>
                          have e1 := (Q7.out.next (Go.RowKit.wrap64 (J + 1))).box.c 0 _ rfl
                          have e2 := HQ.out.box.c 0 _ rfl
                          have e3 := HJ.out
                          simp [ptrOf, intOf, e1, e2, HJ3.out]
                          omega
                      · rw [if_neg hv] at HAD
                        have hvv : (v != h) = true := by simpa using hv
                        have HV := Aside0.mk (pl_fail (HP.out.bad hlt (show stepLie n (l.getD k default) (l.getD (k + 1) default) = _ by rw [← HS.out]; exact HSL.out) HAD.out))
                        have B9 := Aside0.mk (below_more B5.out B7.out)
                        clear hv
                        go_wp2_with fail
                        refine bodyPost_ret (v := .tuple #[.slice none 0 0, .bool false]) (by simp [results, Try.results148, go_sem]) rfl ⟨.slice none 0 0, by rw [HV.out.1], by rw [HV.out.2]; exact Kd.R_nil .., B9.out⟩
          · have HD := Aside0.mk (pl_done HSB.out (HP.out.stop (by omega)))
            have hJ1 : ¬ J < (l.length : Int) := by omega
            clear hlt hj1 hj2 hJ
            go_wp2_with fail
            refine bodyPost_ret (v := .tuple #[u8, .bool true]) (by simp [results, Try.results148, go_sem]) rfl ⟨u8, by rw [HD.out.1], by rw [HD.out.2]; exact Kd.R_lower (Kd.R_mono HQ.out.row (fun _ _ => trivial)) (by have := HBW.out.size; omega), HBt.out⟩
end Go.Proofs.Ytckcffjnffcjcaa
