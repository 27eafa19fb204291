/- Proved: a call of FnExactTouch returns true and changes nothing that was there, whatever parts it is given. No conditions. -/
import Derived.Test.YtckcffjnffcjcaaEqs
import Derived.Test.YtckcffjnffcjcaaSzs
import Derived.Test.YtckcffjnffcjcaaTos
import Derived.Test.YtckcffjnffcjcaaParts
import Derived.Test.YtckcffjnffcjcaaTouch2
import Derived.Test.YtckcffjnffcjcaaOpens
set_option linter.unusedVariables false
set_option linter.unusedSimpArgs false
namespace Go.Proofs.Ytckcffjnffcjcaa
open Go.RowKit Go.Proofs.YtckcffjnffcjcaaW.PrintWords
set_option maxRecDepth 100000 in
set_option maxHeartbeats 4000000 in
theorem FnExactTouch_walk (u0 : Option Addr × Nat) (x0 : List PartT) (u1 : Option Addr × Nat) (x1 : List PartT) (w : World) (hr0 : Kd.C kPart w u0.1 x0.length x0 ∧ x0.length ≤ u0.2) (hg0 : x0.length ≤ 9223372036854775807 ∧ ∀ y ∈ x0, GPart y) (hr1 : Kd.C kPart w u1.1 x1.length x1 ∧ x1.length ≤ u1.2) (hg1 : x1.length ≤ 9223372036854775807 ∧ ∀ y ∈ x1, GPart y) :
    Calls Try.prog 5 #[.slice u0.1 x0.length u0.2, .slice u1.1 x1.length u1.2] w fun e w' => e = .returned (.bool true) ∧ Below w.heap.size w w' := by
  obtain ⟨A0, c0⟩ := u0
  obtain ⟨A1, c1⟩ := u1
  have H0 := Aside0.mk hr0.1
  have H1 := Aside0.mk hr1.1
  have hm0 := hg0.1
  have hm1 := hg1.1
  clear hr0 hg0 hr1 hg1
  by_cases h : (1048576 : Int) - (x0.length : Int) < 0
  · have e1 := Aside0.mk (cutZ_neg h)
    go_enter Try.func5, Try.ntmps5
    go_wp2_with (go_at_call 26; refine (szPartS_any _ _ _ _ _ (by omega) (by omega) hm0).mono ?_; rintro e w1 ⟨rfl, rfl⟩; rw [e1.out])
    go_ret
    exact ⟨rfl, Below.refl _ _⟩
  have e1 := Aside0.mk (cutZ_pos (x := (1048576 : Int) - (x0.length : Int)) (by omega))
  have hn0 : x0.length ≤ 1048576 := by omega
  by_cases h2 : (1048576 : Int) - (x0.length : Int) - (x1.length : Int) < 0
  · have e2 := Aside0.mk (cutZ_neg h2)
    go_enter Try.func5, Try.ntmps5
    go_wp2_with fail
    refine (szPartS_any _ _ _ _ _ (by omega) (by omega) hm0).mono ?_
    rintro e w1 ⟨rfl, rfl⟩
    rw [e1.out]
    go_wp2_with fail
    refine (szPartS_any _ _ _ _ _ (by omega) (by omega) hm1).mono ?_
    rintro e w1 ⟨rfl, rfl⟩
    rw [e2.out]
    go_wp2
    go_ret
    exact ⟨rfl, Below.refl _ _⟩
  · have e2 := Aside0.mk (cutZ_pos (x := (1048576 : Int) - (x0.length : Int) - (x1.length : Int)) (by omega))
    have hn1 : x1.length ≤ 1048576 := by omega
    have HB : Aside0 (Below w.heap.size w w) := ⟨Below.refl _ _⟩
    go_enter Try.func5, Try.ntmps5
    go_wp2_with fail
    refine (szPartS_any _ _ _ _ _ (by omega) (by omega) hm0).mono ?_
    rintro e w0 ⟨rfl, rfl⟩
    rw [e1.out]
    go_wp2_with fail
    refine (szPartS_any _ _ _ _ _ (by omega) (by omega) hm1).mono ?_
    rintro e w0 ⟨rfl, rfl⟩
    rw [e2.out]
    go_wp2_with fail
    refine Calls.mono (toPartS_any _ _ _ _ H0.out hn0) ?_
    rintro e w1 ⟨v1, rfl, h1, b1⟩
    replace H0 := Aside0.mk (Kd.C_below H0.out b1)
    replace H1 := Aside0.mk (Kd.C_below H1.out b1)
    replace HB := Aside0.mk (below_more HB.out b1)
    obtain ⟨Aa, ca, rfl, _, ra⟩ := Kd.R_reads h1
    have Ra := Aside0.mk ra
    clear h1 ra
    clear b1
    go_wp2_with fail
    refine Calls.mono (toPartS_any _ _ _ _ H1.out hn1) ?_
    rintro e w2 ⟨v2, rfl, h2, b2⟩
    replace H0 := Aside0.mk (Kd.C_below H0.out b2)
    replace H1 := Aside0.mk (Kd.C_below H1.out b2)
    replace Ra := Aside0.mk (Kd.C_below Ra.out b2)
    replace HB := Aside0.mk (below_more HB.out b2)
    obtain ⟨Ab, cb, rfl, _, rb⟩ := Kd.R_reads h2
    have Rb := Aside0.mk rb
    clear h2 rb
    clear b2
    go_wp2_with fail
    refine Calls.mono (specTouch_any _ _ _ _ _ _ _ Ra.out Rb.out) ?_
    rintro e w3 ⟨rfl, b3⟩
    replace H0 := Aside0.mk (Kd.C_below H0.out b3)
    replace H1 := Aside0.mk (Kd.C_below H1.out b3)
    replace Ra := Aside0.mk (Kd.C_below Ra.out b3)
    replace Rb := Aside0.mk (Kd.C_below Rb.out b3)
    replace HB := Aside0.mk (below_more HB.out b3)
    clear b3
    go_wp2_with fail
    refine Calls.mono (toPartS_any _ _ _ _ H0.out hn0) ?_
    rintro e w4 ⟨v4, rfl, h4, b4⟩
    replace H0 := Aside0.mk (Kd.C_below H0.out b4)
    replace H1 := Aside0.mk (Kd.C_below H1.out b4)
    replace HB := Aside0.mk (below_more HB.out b4)
    obtain ⟨Ap, cp, rfl, _, rp⟩ := Kd.R_reads h4
    have Rp := Aside0.mk rp
    clear h4 rp
    clear b4
    go_wp2_with fail
    refine Calls.mono (toPartS_any _ _ _ _ H1.out hn1) ?_
    rintro e w5 ⟨v5, rfl, h5, b5⟩
    replace H0 := Aside0.mk (Kd.C_below H0.out b5)
    replace H1 := Aside0.mk (Kd.C_below H1.out b5)
    replace Rp := Aside0.mk (Kd.C_below Rp.out b5)
    replace HB := Aside0.mk (below_more HB.out b5)
    obtain ⟨Aq, cq, rfl, _, rq⟩ := Kd.R_reads h5
    have Rq := Aside0.mk rq
    clear h5 rq
    clear b5
    go_wp2_with fail
    refine Calls.mono (implTouch_any _ _ _ _ _ _ _ Rp.out Rq.out) ?_
    rintro e w6 ⟨rfl, b6⟩
    replace H0 := Aside0.mk (Kd.C_below H0.out b6)
    replace H1 := Aside0.mk (Kd.C_below H1.out b6)
    replace Rp := Aside0.mk (Kd.C_below Rp.out b6)
    replace Rq := Aside0.mk (Kd.C_below Rq.out b6)
    replace HB := Aside0.mk (below_more HB.out b6)
    clear b6
    have hd0 : decide (x0 = x0) = true := by simp
    have hd1 : decide (x1 = x1) = true := by simp
    go_wp2_with fail
    refine Calls.mono (toPartS_any _ _ _ _ H0.out hn0) ?_
    rintro e w7 ⟨v7, rfl, h7, b7⟩
    replace H0 := Aside0.mk (Kd.C_below H0.out b7)
    replace H1 := Aside0.mk (Kd.C_below H1.out b7)
    replace Rp := Aside0.mk (Kd.C_below Rp.out b7)
    replace Rq := Aside0.mk (Kd.C_below Rq.out b7)
    replace HB := Aside0.mk (below_more HB.out b7)
    obtain ⟨Ax, cx, rfl, _, rx⟩ := Kd.R_reads h7
    have Rx := Aside0.mk rx
    clear h7 rx
    clear b7
    go_wp2_with fail
    refine Calls.mono (eqPartS_any _ _ _ _ _ _ _ Rp.out Rx.out) ?_
    rintro e w8 ⟨rfl, b8⟩
    replace H0 := Aside0.mk (Kd.C_below H0.out b8)
    replace H1 := Aside0.mk (Kd.C_below H1.out b8)
    replace Rp := Aside0.mk (Kd.C_below Rp.out b8)
    replace Rq := Aside0.mk (Kd.C_below Rq.out b8)
    replace Rx := Aside0.mk (Kd.C_below Rx.out b8)
    replace HB := Aside0.mk (below_more HB.out b8)
    clear b8
    go_wp2_with fail
    refine Calls.mono (toPartS_any _ _ _ _ H1.out hn1) ?_
    rintro e w9 ⟨v9, rfl, h9, b9⟩
    replace H0 := Aside0.mk (Kd.C_below H0.out b9)
    replace H1 := Aside0.mk (Kd.C_below H1.out b9)
    replace Rp := Aside0.mk (Kd.C_below Rp.out b9)
    replace Rq := Aside0.mk (Kd.C_below Rq.out b9)
    replace Rx := Aside0.mk (Kd.C_below Rx.out b9)
    replace HB := Aside0.mk (below_more HB.out b9)
    obtain ⟨Ay, cy, rfl, _, ry⟩ := Kd.R_reads h9
    have Ry := Aside0.mk ry
    clear h9 ry
    clear b9
    go_wp2_with fail
    refine Calls.mono (eqPartS_any _ _ _ _ _ _ _ Rq.out Ry.out) ?_
    rintro e w10 ⟨rfl, b10⟩
    replace H0 := Aside0.mk (Kd.C_below H0.out b10)
    replace H1 := Aside0.mk (Kd.C_below H1.out b10)
    replace Rp := Aside0.mk (Kd.C_below Rp.out b10)
    replace Rq := Aside0.mk (Kd.C_below Rq.out b10)
    replace Rx := Aside0.mk (Kd.C_below Rx.out b10)
    replace Ry := Aside0.mk (Kd.C_below Ry.out b10)
    replace HB := Aside0.mk (below_more HB.out b10)
    clear b10
    go_wp2
    go_ret
    exact ⟨rfl, HB.out⟩
end Go.Proofs.Ytckcffjnffcjcaa
