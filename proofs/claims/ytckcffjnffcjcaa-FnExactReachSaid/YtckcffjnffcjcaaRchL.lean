/- What the walks of Reach lean on: the reference's order of spots, a line of ways without steps, a literal row of one spot. No conditions. -/
import Derived.Test.YtckcffjnffcjcaaHdr
import Derived.Test.YtckcffjnffcjcaaDr1
import Derived.Test.YtckcffjnffcjcaaReachP
import Derived.Outline
set_option linter.unusedVariables false
set_option linter.unusedSimpArgs false
namespace Go.Proofs.Ytckcffjnffcjcaa
open Go.RowKit Go.Proofs.YtckcffjnffcjcaaW.PrintWords
theorem acrossJ_few (j : JointT) (q : Nat) : (acrossJ j q).length ≤ 2 := by
  unfold acrossJ
  split
  · simp
  · split
    · split <;> simp
    · split <;> simp
theorem info172R : (Try.prog.info? 172).map (fun i => (i.zero, i.size, i.bytes)) = some (some (.agg #[.int .i64 0, .int .i64 0, .int .i64 0, .int .i64 0, .slice none 0 0]), 5, 56) := by kernel_rfl
theorem R_hdrR (W : World) (x : HdrT) {base g : Nat} (hg : g = W.heap.size) (hb : base ≤ W.heap.size) : kHdr.R 172 (W.alloc (.cells (hdrVals x).toArray 172)) base (fun _ => True) (.slice (some ⟨g, 0, none⟩) 1 1) [x] := by
  subst hg
  exact R_lits kHdr W 172 (xs := [x]) (inner := hdrVals x) (by
    have := (Reps.none (fun (x : HdrT) c => ∀ w base ok, kHdr.M w base ok x c) 5).snoc (p := x) (c := hdrVals x) (fun w base ok => kHdr_mkM w base ok x) rfl
    exact this) (by simp) hb
theorem R_spot1 (W : World) (x : SpotT) {base g : Nat} (hg : g = W.heap.size) (hb : base ≤ W.heap.size) : kSpot.R 38 (W.alloc (.cells #[.int .i64 x.piece, .int .i64 x.at_, .int .i64 x.way] 38)) base (fun _ => True) (.slice (some ⟨g, 0, none⟩) 1 1) [x] := by
  subst hg
  exact R_lits kSpot W 38 (xs := [x]) (inner := [.int .i64 x.piece, .int .i64 x.at_, .int .i64 x.way]) (by
    have := (Reps.none (fun (x : SpotT) c => ∀ w base ok, kSpot.M w base ok x c) 3).snoc (p := x) (c := [.int .i64 x.piece, .int .i64 x.at_, .int .i64 x.way]) (fun w base ok => kSpot_mkM w base ok x) rfl
    exact this) (by simp) hb
set_option maxRecDepth 100000 in
set_option maxHeartbeats 4000000 in
theorem l4spot_any (x y : SpotT) (w : World) :
    Calls Try.prog 161 #[.agg #[.int .i64 x.piece, .int .i64 x.at_, .int .i64 x.way], .agg #[.int .i64 y.piece, .int .i64 y.at_, .int .i64 y.way]] w
      fun e w' => e = .returned (.bool (spotLt x y)) ∧ Below w.heap.size w w' := by
  obtain ⟨xp, xa, xw⟩ := x
  obtain ⟨yp, ya, yw⟩ := y
  obtain ⟨W0, hW0, hBX, hBY, fb0, hz0⟩ := box2 w [.int .i64 xp, .int .i64 xa, .int .i64 xw] [.int .i64 yp, .int .i64 ya, .int .i64 yw] 38 38
  have FB := Aside0.mk fb0
  have HW := Aside0.mk hW0
  have x0 := hBX.c 0 _ rfl; have x1 := hBX.c 1 _ rfl; have x2 := hBX.c 2 _ rfl
  have y0 := hBY.c 0 _ rfl; have y1 := hBY.c 1 _ rfl; have y2 := hBY.c 2 _ rfl
  clear fb0 hW0 hBX hBY
  go_enter Try.func161, Try.ntmps161
  by_cases h1 : xp = yp
  · subst h1
    have e1 : (xp == xp) = true := by simp
    by_cases h2 : xa = ya
    · subst h2
      have e2 : (xa == xa) = true := by simp
      have HV : Aside0 (spotLt ⟨xp, xa, xw⟩ ⟨xp, xa, yw⟩ = decide (xw < yw)) := ⟨by unfold spotLt; simp⟩
      go_wp2_with fail
      rw [← HW.out]
      go_wp2_with fail
      go_ret
      exact ⟨by rw [HV.out]; rfl, FB.out⟩
    · have e2 : (xa == ya) = false := by simpa using h2
      have HV : Aside0 (spotLt ⟨xp, xa, xw⟩ ⟨xp, ya, yw⟩ = decide (xa < ya)) := ⟨by unfold spotLt; simp [h2]⟩
      clear h2
      go_wp2_with fail
      rw [← HW.out]
      go_wp2_with fail
      go_ret
      exact ⟨by rw [HV.out]; rfl, FB.out⟩
  · have e1 : (xp == yp) = false := by simpa using h1
    have HV : Aside0 (spotLt ⟨xp, xa, xw⟩ ⟨yp, ya, yw⟩ = decide (xp < yp)) := ⟨by unfold spotLt; simp [h1]⟩
    clear h1
    go_wp2_with fail
    rw [← HW.out]
    go_wp2_with fail
    go_ret
    exact ⟨by rw [HV.out]; rfl, FB.out⟩
end Go.Proofs.Ytckcffjnffcjcaa
