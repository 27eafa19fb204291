/- Contract of the reference's PathLies: the lies of a row of steps. Conditions: the net's sizes. -/
import Derived.Test.YtckcffjnffcjcaaPl4
import Derived.Test.YtckcffjnffcjcaaPl6
set_option linter.unusedVariables false
set_option linter.unusedSimpArgs false
namespace Go.Proofs.Ytckcffjnffcjcaa
open Go.RowKit Go.Proofs.YtckcffjnffcjcaaW.PrintWords
theorem steps_all {n : NetT} {l : List StepT} (h : l.length ≤ 400) (h2 : ∀ k, k < l.length → stepB n (l.getD k default) = true) : stepsB n l = true := by
  unfold stepsB
  rw [decide_eq_true h, Bool.true_and, List.all_eq_true]
  intro x hx
  obtain ⟨k, hk, rfl⟩ := List.mem_iff_getElem.1 hx
  have := h2 k hk
  rwa [getD_at l k hk] at this
theorem pl_long {n : NetT} {l : List StepT} (h : 400 < l.length) : pathLiesV n l = [] := by
  unfold pathLiesV; rw [steps_long h, Bool.and_false]; rfl
theorem pl_one {n : NetT} {l : List StepT} {i : Nat} (hi : i < l.length) (h : stepB n (l.getD i default) = false) : pathLiesV n l = [] := by
  unfold pathLiesV; rw [steps_one hi h, Bool.and_false]; rfl
set_option maxRecDepth 100000 in
set_option maxHeartbeats 4000000 in
theorem specPathLies_any (n : NetT) (u : (Option Addr × Nat) × (Option Addr × Nat)) (v0 : Option Addr × Nat) (l : List StepT) (w : World) (hr : RdNet 67 w u n) (hC : Kd.C kStep w v0.1 l.length l) (hf : NetFits n) :
    Calls Try.prog 75 #[.agg #[.slice u.1.1 n.pieces.length u.1.2, .slice u.2.1 n.joints.length u.2.2], .slice v0.1 l.length v0.2] w
      fun e w' => ∃ v, e = .returned v ∧ Kd.R kLie 111 w' w.heap.size (fun _ => True) v (pathLiesV n l) ∧ Below w.heap.size w w' := by
  obtain ⟨A, c⟩ := v0
  have HR := Aside0.mk hr
  have HF := Aside0.mk hf
  have HC := Aside0.mk hC
  have hml := hC.2.1
  have hfp := hf.p
  have B1 : Aside0 (Below w.heap.size w (w.alloc (.cells #[.slice u.1.1 n.pieces.length u.1.2, .slice u.2.1 n.joints.length u.2.2] 35))) := ⟨below_alloc (Below.refl _ _) _⟩
  have N1 := Aside0.mk (Bx.new w [.slice u.1.1 n.pieces.length u.1.2, .slice u.2.1 n.joints.length u.2.2] 35)
  clear hr hf hC
  cases hg : netGood n with
  | false =>
    have HG := Aside0.mk hg
    clear hg
    go_enter Try.func75, Try.ntmps75
    go_wp2_with fail
    refine Calls.mono (l1ok_any n u _ (HR.out.below B1.out) HF.out) ?_
    rintro e w2 ⟨rfl, b2⟩
    rw [HG.out]
    have B2 := Aside0.mk (below_more B1.out b2)
    clear b2
    go_wp2_with fail
    go_ret
    exact ⟨_, rfl, by rw [pl_ungood HG.out]; exact Kd.R_nil .., B2.out⟩
  | true =>
    have HG := Aside0.mk hg
    have HGd := Aside0.mk (Good.of hg)
    clear hg
    by_cases h400 : (400 : Int) < (l.length : Int)
    · have HV := Aside0.mk (pl_long (n := n) (l := l) (by omega))
      go_enter Try.func75, Try.ntmps75
      go_wp2_with fail
      refine Calls.mono (l1ok_any n u _ (HR.out.below B1.out) HF.out) ?_
      rintro e w2 ⟨rfl, b2⟩
      rw [HG.out]
      have B2 := Aside0.mk (below_more B1.out b2)
      clear b2
      go_wp2_with fail
      go_ret
      exact ⟨_, rfl, by rw [HV.out]; exact Kd.R_nil .., B2.out⟩
    · go_enter Try.func75, Try.ntmps75
      go_wp2_with fail
      refine Calls.mono (l1ok_any n u _ (HR.out.below B1.out) HF.out) ?_
      rintro e w2 ⟨rfl, b2⟩
      rw [HG.out]
      have B2 := Aside0.mk (below_more B1.out b2)
      have N2 := Aside0.mk (N1.out.below b2)
      clear b2
      go_wp2_with fail
      go_loopw [19] (fun v19 wr => ∃ i : Nat, v19 = .int .i64 (i : Int) ∧ i ≤ l.length ∧ Aside0 (∀ k, k < i → stepB n (l.getD k default) = true) ∧ Aside0 (Below w2.heap.size w2 wr)) (fun v19 _ => l.length - (intOf v19).toNat)
      case atStart => exact ⟨0, rfl, Nat.zero_le _, ⟨fun k hk => by omega⟩, ⟨Below.refl _ _⟩⟩
      case round =>
        obtain ⟨i, rfl, hi, HT, HBr⟩ := hrel
        have N3 := Aside0.mk (N2.out.below HBr.out)
        have B3 := Aside0.mk (below_more B2.out HBr.out)
        by_cases hlt : i < l.length
        · obtain ⟨ad0, e0, y0, y1⟩ := at_Step HC.out i hlt
          subst e0
          replace y0 := pw_cell_below B3.out y0
          replace y1 := pw_cell_below B3.out y1
          obtain ⟨⟨sp, sw⟩, hs⟩ : ∃ s, s = l.getD i default := ⟨_, rfl⟩
          rw [← hs] at y0 y1
          have N4 := Aside0.mk (N3.out.alloc (.cells #[.int .i64 sp, .int .i64 sw] 85))
          have B4 := Aside0.mk (below_alloc HBr.out (.cells #[.int .i64 sp, .int .i64 sw] 85))
          have BW4 := Aside0.mk (below_alloc B3.out (.cells #[.int .i64 sp, .int .i64 sw] 85))
          have S4 := Aside0.mk (Bx.new wr [.int .i64 sp, .int .i64 sw] 85)
          have n0 := N4.out.c 0 _ rfl
          have hwn : IntKind.i64.wrap ((n.pieces.length : Int) - 1) = (n.pieces.length : Int) - 1 := wrap64 (by omega) (by omega)
          cases hb : stepB n ⟨sp, sw⟩ with
          | true =>
            obtain ⟨h0, h1, h2⟩ := stepB_iff.1 hb
            simp only at h0 h1 h2
            have HSB := Aside0.mk (show stepB n (l.getD i default) = true by rw [← hs]; exact hb)
            have hin : Aside0 (inB sp 0 ((n.pieces.length : Int) - 1) = true) := ⟨inB_true.2 ⟨h0, by omega⟩⟩
            clear hs hb h0 h1
            rcases h2 with h2 | h2
            · subst h2
              go_wp2_with (go_at_call 119; (with_reducible refine Calls.mono (l1in_is _ _ _ _ hin.out _) ?_); rintro e w5 ⟨rfl, rfl⟩; have p1 := S4.out.c 1 _ rfl)
              go_roundw
              case rel => exact ⟨i + 1, by go_num, by omega, ⟨upto_step HT.out HSB.out⟩, B4⟩
              case measure => simp [intOf]; omega
            · subst h2
              go_wp2_with (go_at_call 119; (with_reducible refine Calls.mono (l1in_is _ _ _ _ hin.out _) ?_); rintro e w5 ⟨rfl, rfl⟩; have p1 := S4.out.c 1 _ rfl)
              go_roundw
              case rel => exact ⟨i + 1, by go_num, by omega, ⟨upto_step HT.out HSB.out⟩, B4⟩
              case measure => simp [intOf]; omega
          | false =>
            have HV := Aside0.mk (pl_one hlt (by rw [← hs]; exact hb))
            have hnb : ¬ (0 ≤ sp ∧ sp < (n.pieces.length : Int) ∧ (sw = 1 ∨ sw = -1)) := fun h => by rw [stepB_iff.2 h] at hb; cases hb
            clear hs hb
            cases hib : inB sp 0 ((n.pieces.length : Int) - 1) with
            | false =>
              have hin := Aside0.mk hib
              clear hnb hib
              go_wp2_with (go_at_call 119; (with_reducible refine Calls.mono (l1in_is _ _ _ _ hin.out _) ?_); rintro e w5 ⟨rfl, rfl⟩; have p1 := S4.out.c 1 _ rfl)
              go_ret
              exact ⟨_, rfl, by rw [HV.out]; exact Kd.R_nil .., BW4.out⟩
            | true =>
              have hin := Aside0.mk hib
              have hin2 := inB_true.1 hib
              have q2 : (sw != 1) = true := by
                have : ¬ sw = 1 := fun h => hnb ⟨by omega, by omega, .inl h⟩
                simpa using this
              have q3 : (sw != -1) = true := by
                have : ¬ sw = -1 := fun h => hnb ⟨by omega, by omega, .inr h⟩
                simpa using this
              clear hnb hib hin2
              go_wp2_with (go_at_call 119; (with_reducible refine Calls.mono (l1in_is _ _ _ _ hin.out _) ?_); rintro e w5 ⟨rfl, rfl⟩; have p1 := S4.out.c 1 _ rfl)
              go_ret
              exact ⟨_, rfl, by rw [HV.out]; exact Kd.R_nil .., BW4.out⟩
        · have HS := Aside0.mk (steps_all (n := n) (l := l) (by omega) (fun k hk => HT.out k (by omega)))
          have n0 := N3.out.c 0 _ rfl; have n1 := N3.out.c 1 _ rfl
          go_wp2_with fail
          refine Calls.mono (specPL_any n u A c l _ (HR.out.below B3.out) HGd.out (Kd.C_below HC.out B3.out) HS.out) ?_
          rintro e w3 ⟨v, rfl, hv, b3⟩
          have B5 := Aside0.mk (below_more B3.out b3)
          have HV := Aside0.mk (Kd.R_lower hv B3.out.size)
          clear b3 hv n0 n1
          cases hok : plOk n l with
          | false =>
            have HO := Aside0.mk hok
            clear hok
            go_wp2_with fail
            go_ret
            exact ⟨_, rfl, by rw [pl_good HG.out, pl_none HO.out]; exact Kd.R_nil .., B5.out⟩
          | true =>
            have HO := Aside0.mk hok
            clear hok
            go_wp2_with fail
            go_ret
            exact ⟨_, rfl, by rw [pl_good HG.out]; exact HV.out, B5.out⟩
end Go.Proofs.Ytckcffjnffcjcaa
