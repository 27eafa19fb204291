/- Contract of the program's PathLies, on the ground of Pl3. Conditions: the net's sizes. -/
import Derived.Test.YtckcffjnffcjcaaPl3
import Derived.Test.YtckcffjnffcjcaaSpot1
set_option linter.unusedVariables false
set_option linter.unusedSimpArgs false
namespace Go.Proofs.Ytckcffjnffcjcaa
open Go.RowKit Go.Proofs.YtckcffjnffcjcaaW.PrintWords
theorem pl_ungood {n : NetT} {l : List StepT} (h : netGood n = false) : pathLiesV n l = [] := by
  unfold pathLiesV; rw [h]; rfl
theorem pl_good {n : NetT} {l : List StepT} (h : netGood n = true) : pathLiesV n l = plV n l := by
  unfold pathLiesV plV; rw [h, Bool.true_and]
theorem pl_none {n : NetT} {l : List StepT} (h : plOk n l = false) : plV n l = [] := by
  unfold plOk at h
  unfold plV
  cases hs : stepsB n l with
  | false => rfl
  | true =>
    rw [hs, Bool.true_and] at h
    rw [if_pos rfl]
    cases ho : liesAll n l with
    | none => rfl
    | some o => rw [ho] at h; cases h
set_option maxRecDepth 100000 in
set_option maxHeartbeats 4000000 in
theorem implPathLies_any (n : NetT) (u : (Option Addr × Nat) × (Option Addr × Nat)) (v0 : Option Addr × Nat) (l : List StepT) (w : World) (hr : RdNet 67 w u n) (hC : Kd.C kStep w v0.1 l.length l) (hf : NetFits n) :
    Calls Try.prog 77 #[.agg #[.slice u.1.1 n.pieces.length u.1.2, .slice u.2.1 n.joints.length u.2.2], .slice v0.1 l.length v0.2] w
      fun e w' => ∃ v, e = .returned v ∧ Kd.R kLie 111 w' w.heap.size (fun _ => True) v (pathLiesV n l) ∧ Below w.heap.size w w' := by
  obtain ⟨A, c⟩ := v0
  have HR := Aside0.mk hr
  have HF := Aside0.mk hf
  have HC := Aside0.mk hC
  have B1 : Aside0 (Below w.heap.size w (w.alloc (.cells #[.slice u.1.1 n.pieces.length u.1.2, .slice u.2.1 n.joints.length u.2.2] 35))) := ⟨below_alloc (Below.refl _ _) _⟩
  have N1 := Aside0.mk (Bx.new w [.slice u.1.1 n.pieces.length u.1.2, .slice u.2.1 n.joints.length u.2.2] 35)
  clear hr hf hC
  cases hg : netGood n with
  | false =>
    have HG := Aside0.mk hg
    clear hg
    go_enter Try.func77, Try.ntmps77
    go_wp2_with fail
    refine Calls.mono (good_any n u _ (HR.out.below B1.out) HF.out) ?_
    rintro e w2 ⟨rfl, b2⟩
    rw [HG.out]
    have B2 := Aside0.mk (below_more B1.out b2)
    clear b2
    go_wp2_with fail
    go_ret
    exact ⟨_, rfl, by rw [pl_ungood HG.out]; exact Kd.R_nil .., B2.out⟩
  | true =>
    have HG := Aside0.mk hg
    have HGd := Aside0.mk (Good.of hg)
    clear hg
    go_enter Try.func77, Try.ntmps77
    go_wp2_with fail
    refine Calls.mono (good_any n u _ (HR.out.below B1.out) HF.out) ?_
    rintro e w2 ⟨rfl, b2⟩
    rw [HG.out]
    have B2 := Aside0.mk (below_more B1.out b2)
    have N2 := Aside0.mk (N1.out.below b2)
    clear b2
    have n0 := N2.out.c 0 _ rfl; have n1 := N2.out.c 1 _ rfl
    go_wp2_with fail
    refine Calls.mono (implPL_any n u A c l _ (HR.out.below B2.out) HGd.out (Kd.C_below HC.out B2.out)) ?_
    rintro e w3 ⟨v, rfl, hv, b3⟩
    have B3 := Aside0.mk (below_more B2.out b3)
    have HV := Aside0.mk (Kd.R_lower hv B2.out.size)
    clear b3 hv n0 n1
    cases hok : plOk n l with
    | false =>
      have HO := Aside0.mk hok
      clear hok
      go_wp2_with fail
      go_ret
      exact ⟨_, rfl, by rw [pl_good HG.out, pl_none HO.out]; exact Kd.R_nil .., B3.out⟩
    | true =>
      have HO := Aside0.mk hok
      clear hok
      go_wp2_with fail
      go_ret
      exact ⟨_, rfl, by rw [pl_good HG.out]; exact HV.out, B3.out⟩
end Go.Proofs.Ytckcffjnffcjcaa
