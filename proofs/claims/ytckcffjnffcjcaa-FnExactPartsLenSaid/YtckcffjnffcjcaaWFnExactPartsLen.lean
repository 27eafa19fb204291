/- Proved: a call of FnExactPartsLen returns true and changes nothing that was there, whatever parts it is given. No conditions. -/
import Derived.Test.YtckcffjnffcjcaaEqs
import Derived.Test.YtckcffjnffcjcaaSzs
import Derived.Test.YtckcffjnffcjcaaTos
import Derived.Test.YtckcffjnffcjcaaParts
import Derived.Test.YtckcffjnffcjcaaOpens
set_option linter.unusedVariables false
set_option linter.unusedSimpArgs false
namespace Go.Proofs.Ytckcffjnffcjcaa
open Go.RowKit Go.Proofs.YtckcffjnffcjcaaW.PrintWords
set_option maxRecDepth 100000 in
theorem FnExactPartsLen_walk (u : Option Addr × Nat) (x : List PartT) (w : World) (hr : Kd.C kPart w u.1 x.length x ∧ x.length ≤ u.2) (hg : x.length ≤ 9223372036854775807 ∧ ∀ y ∈ x, GPart y) :
    Calls Try.prog 4 #[.slice u.1 x.length u.2] w fun e w' => e = .returned (.bool true) ∧ Below w.heap.size w w' := by
  obtain ⟨A, c⟩ := u
  have HR := Aside0.mk hr.1
  have hm := hg.1
  clear hr hg
  by_cases h : (1048576 : Int) - (x.length : Int) < 0
  · have e1 := Aside0.mk (cutZ_neg h)
    go_enter Try.func4, Try.ntmps4
    go_wp2_with (go_at_call 26; refine (szPartS_any _ _ _ _ _ (by omega) (by omega) hm).mono ?_; rintro e w1 ⟨rfl, rfl⟩; rw [e1.out])
    go_ret
    exact ⟨rfl, Below.refl _ _⟩
  · have e1 := Aside0.mk (cutZ_pos (x := (1048576 : Int) - (x.length : Int)) (by omega))
    have hn : x.length ≤ 1048576 := by omega
    go_enter Try.func4, Try.ntmps4
    go_wp2_with (go_at_call 26; refine (szPartS_any _ _ _ _ _ (by omega) (by omega) hm).mono ?_; rintro e w1 ⟨rfl, rfl⟩; rw [e1.out])
    refine (toPartS_any _ _ _ _ HR.out hn).mono ?_
    rintro e w1 ⟨v1, rfl, h1, b1⟩
    obtain ⟨A1, c1, rfl, _, r1⟩ := Kd.R_reads h1
    have R1 := Aside0.mk r1
    have B1 := Aside0.mk b1
    clear h1 b1 r1
    go_wp2_with fail
    refine (specPartsLen_any _ _ _ _ R1.out).mono ?_
    rintro e w2 ⟨rfl, b2⟩
    have B2 := Aside0.mk (below_more B1.out b2)
    clear b2
    go_wp2_with fail
    refine (toPartS_any _ _ _ _ (Kd.C_below HR.out B2.out) hn).mono ?_
    rintro e w3 ⟨v3, rfl, h3, b3⟩
    obtain ⟨A3, c3, rfl, _, r3⟩ := Kd.R_reads h3
    have R3 := Aside0.mk r3
    have B3 := Aside0.mk (below_more B2.out b3)
    clear h3 b3 r3
    go_wp2_with fail
    refine (implPartsLen_any _ _ _ _ R3.out).mono ?_
    rintro e w4 ⟨rfl, b4⟩
    have R4 := Aside0.mk (Kd.C_below R3.out b4)
    have B4 := Aside0.mk (below_more B3.out b4)
    clear b4
    go_wp2_with fail
    refine (toPartS_any _ _ _ _ (Kd.C_below HR.out B4.out) hn).mono ?_
    rintro e w5 ⟨v5, rfl, h5, b5⟩
    obtain ⟨A5, c5, rfl, _, r5⟩ := Kd.R_reads h5
    have R5 := Aside0.mk r5
    have R6 := Aside0.mk (Kd.C_below R4.out b5)
    have B5 := Aside0.mk (below_more B4.out b5)
    clear h5 b5 r5
    go_wp2_with fail
    refine (eqPartS_any _ _ _ _ _ _ _ R6.out R5.out).mono ?_
    rintro e w6 ⟨rfl, b6⟩
    have B6 := Aside0.mk (below_more B5.out b6)
    have hd : decide (x = x) = true := by simp
    clear b6
    go_wp2
    go_ret
    exact ⟨rfl, B6.out⟩
end Go.Proofs.Ytckcffjnffcjcaa
