/- The drive as the two loops make it, step by step. No program in sight. -/
import Derived.Test.YtckcffjnffcjcaaDrvLaws
set_option linter.unusedVariables false
namespace Go.Proofs.Ytckcffjnffcjcaa
open Go.RowKit Go.Proofs.YtckcffjnffcjcaaW.PrintWords
variable {n : NetT} {lies : List Int} {s : SpotT} {left : Int}
/-- The reference's loop: r joints passed, far driven, the parts so far. -/
structure DI (n : NetT) (lies : List Int) (s : SpotT) (left : Int) (r : Nat) (far : Int) (t : SpotT) (ps : List PartT) : Prop where
  spot : spotB n t = true
  r1 : r ≤ 1000
  f0 : 0 ≤ far
  f1 : far ≤ left
  eq : drv n lies 1000 s left = (drv n lies (1000 - r) t (left - far)).behind far ps
  few : ps.length ≤ r + 1
  tight : ps.length = r + 1 → roomS n t = 0 ∨ far = left
theorem DI.start (hs : spotB n s = true) (h0 : 0 ≤ left) : DI n lies s left 0 0 s [] := by
  refine ⟨hs, by omega, by omega, h0, ?_, by simp, fun h => by simp at h⟩
  rw [behind_none, Int.sub_zero]
theorem behind_mk (c f : Int) (j : Int) (t : SpotT) (g : Int) (ps : List PartT) : (DrvT.mk c f j t []).behind g ps = ⟨c, g + f, j, t, ps⟩ := by unfold DrvT.behind; simp
theorem DI.done (hg : Good n) {r : Nat} {far : Int} {t : SpotT} {ps : List PartT} (h : DI n lies s left r far t ps) (hf : far = left) : drv n lies 1000 s left = ⟨0, far, -1, t, ps⟩ := by
  rw [h.eq, hf, Int.sub_self, drv_none hg h.spot, behind_mk, Int.add_zero]
theorem DI.stop (hg : Good n) {r : Nat} {far : Int} {t : SpotT} {ps : List PartT} (h : DI n lies s left r far t ps) (hf : far < left) (hr : roomS n t = 0) (hc : (overL n lies (headE t)).1 ≠ 0) :
    drv n lies 1000 s left = ⟨(overL n lies (headE t)).1, far, (atEnd n (headE t)).1, t, ps⟩ := by
  rw [h.eq, drv_joint hr (by omega), if_pos hc, behind_mk, Int.add_zero]
theorem DI.full (hg : Good n) {r : Nat} {far : Int} {t : SpotT} {ps : List PartT} (h : DI n lies s left r far t ps) (hf : far < left) (hr : roomS n t = 0) (hc : (overL n lies (headE t)).1 = 0) (hk : r = 1000) :
    drv n lies 1000 s left = ⟨5, far, (atEnd n (headE t)).1, t, ps⟩ := by
  rw [h.eq, drv_joint hr (by omega), if_neg (by omega), hk]
  exact (behind_mk ..).trans (by rw [Int.add_zero])
theorem DI.joint (hg : Good n) (hl : liesB n lies = true) {r : Nat} {far : Int} {t : SpotT} {ps : List PartT} (h : DI n lies s left r far t ps) (hf : far < left) (hr : roomS n t = 0) (hc : (overL n lies (headE t)).1 = 0) (hk : r ≠ 1000) :
    DI n lies s left (r + 1) far (enterS n (overL n lies (headE t)).2) ps := by
  have hr1 := h.r1
  have hov := hg.over hl (headE_ok h.spot) hc
  have hac := hg.across (headE_ok h.spot) hov
  refine ⟨enterS_ok hg hac.1, by omega, h.f0, h.f1, ?_, by have := h.few; omega, fun h2 => by have := h.few; omega⟩
  rw [h.eq, drv_joint hr (by omega), if_neg (by omega), show 1000 - r = (1000 - (r + 1)) + 1 by omega]
theorem DI.move (hg : Good n) {r : Nat} {far : Int} {t : SpotT} {ps : List PartT} (h : DI n lies s left r far t ps) (hf : far < left) (hr : roomS n t ≠ 0) :
    DI n lies s left r (far + legOf n t (left - far)) (moveS t (legOf n t (left - far))) (ps ++ [partOf t (legOf n t (left - far))]) ∧ ps.length ≤ r := by
  have hb := legOf_bd hg h.spot (left := left - far) (by omega)
  have hrb := roomS_bd hg h.spot
  have hpos : 0 < legOf n t (left - far) := by unfold legOf; omega
  have hlen : ps.length ≤ r := by
    have h1 := h.few
    by_cases h2 : ps.length = r + 1
    · rcases h.tight h2 with h3 | h3
      · exact absurd h3 hr
      · omega
    · omega
  refine ⟨⟨moveS_ok h.spot hb.1 hb.2.1, h.r1, by have := h.f0; omega, by omega, ?_, by simp; omega, fun _ => ?_⟩, hlen⟩
  · rw [h.eq, drv_move hg h.spot hpos, behind_behind]
    rw [show left - far - legOf n t (left - far) = left - (far + legOf n t (left - far)) by omega]
  · rw [moveS_room h.spot]
    unfold legOf
    omega
/-- The program's loop: r joints passed, far driven. -/
structure DJ (n : NetT) (lies : List Int) (s : SpotT) (left : Int) (r : Nat) (far : Int) (t : SpotT) (ps : List PartT) : Prop where
  spot : spotB n t = true
  r1 : r ≤ 1000
  f0 : 0 ≤ far
  f1 : far ≤ left
  eq : drv n lies 1000 s left = (drv n lies (1000 - r) t (left - far)).behind far ps
  few : ps.length ≤ r
theorem DJ.start (hs : spotB n s = true) (h0 : 0 ≤ left) : DJ n lies s left 0 0 s [] := by
  refine ⟨hs, by omega, by omega, h0, ?_, by simp⟩
  rw [behind_none, Int.sub_zero]
section
variable {r : Nat} {far : Int} {t : SpotT} {ps : List PartT}
theorem partsOf_len (t : SpotT) (x : Int) : (partsOf t x).length ≤ 1 := by unfold partsOf; split <;> simp
theorem DJ.leg (hg : Good n) (h : DJ n lies s left r far t ps) : 0 ≤ legOf n t (left - far) ∧ legOf n t (left - far) ≤ roomS n t ∧ legOf n t (left - far) ≤ left - far ∧ (ps ++ partsOf t (legOf n t (left - far))).length ≤ 1001 := by
  have h1 := h.f1
  have hb := legOf_bd hg h.spot (left := left - far) (by omega)
  have := partsOf_len t (legOf n t (left - far))
  have h2 := h.few
  have h3 := h.r1
  refine ⟨hb.1, hb.2.1, hb.2.2, by rw [List.length_append]; omega⟩
theorem DJ.done (h : DJ n lies s left r far t ps) (hf : left - far - legOf n t (left - far) = 0) :
    drv n lies 1000 s left = ⟨0, far + legOf n t (left - far), -1, moveS t (legOf n t (left - far)), ps ++ partsOf t (legOf n t (left - far))⟩ := by
  have hst : stopAt n lies t (left - far) = some (0, -1) := by unfold stopAt; rw [if_pos hf]
  rw [h.eq, drv_stop hst]; rfl
theorem DJ.stop (h : DJ n lies s left r far t ps) (hf : left - far - legOf n t (left - far) ≠ 0) (hc : (overL n lies (headE t)).1 ≠ 0) :
    drv n lies 1000 s left = ⟨(overL n lies (headE t)).1, far + legOf n t (left - far), (atEnd n (headE t)).1, moveS t (legOf n t (left - far)), ps ++ partsOf t (legOf n t (left - far))⟩ := by
  have hst : stopAt n lies t (left - far) = some ((overL n lies (headE t)).1, (atEnd n (headE t)).1) := by unfold stopAt; rw [if_neg hf, if_pos hc]
  rw [h.eq, drv_stop hst]; rfl
theorem DJ.full (h : DJ n lies s left r far t ps) (hf : left - far - legOf n t (left - far) ≠ 0) (hc : (overL n lies (headE t)).1 = 0) (hk : r = 1000) :
    drv n lies 1000 s left = ⟨5, far + legOf n t (left - far), (atEnd n (headE t)).1, moveS t (legOf n t (left - far)), ps ++ partsOf t (legOf n t (left - far))⟩ := by
  have hst : stopAt n lies t (left - far) = none := by unfold stopAt; rw [if_neg hf, if_neg (by omega)]
  rw [h.eq, hk]
  show (drv n lies 0 t (left - far)).behind far ps = _
  rw [drv_full hst]; rfl
theorem DJ.joint (hg : Good n) (hl : liesB n lies = true) (h : DJ n lies s left r far t ps) (hf : left - far - legOf n t (left - far) ≠ 0) (hc : (overL n lies (headE t)).1 = 0) (hk : r ≠ 1000) :
    DJ n lies s left (r + 1) (far + legOf n t (left - far)) (enterS n (overL n lies (headE t)).2) (ps ++ partsOf t (legOf n t (left - far))) := by
  have hst : stopAt n lies t (left - far) = none := by unfold stopAt; rw [if_neg hf, if_neg (by omega)]
  have hr1 := h.r1
  have hov := hg.over hl (headE_ok h.spot) hc
  have hac := hg.across (headE_ok h.spot) hov
  have hb := legOf_bd hg h.spot (left := left - far) (by have := h.f1; omega)
  refine ⟨enterS_ok hg hac.1, by omega, by have := h.f0; omega, by omega, ?_, by have := partsOf_len t (legOf n t (left - far)); have := h.few; rw [List.length_append]; omega⟩
  rw [h.eq, show 1000 - r = (1000 - (r + 1)) + 1 by omega, drv_on hst]
  unfold DrvT.behind
  simp only [DrvT.mk.injEq, true_and, List.append_assoc]
  rw [show left - far - legOf n t (left - far) = left - (far + legOf n t (left - far)) by omega]
  simp [Int.add_assoc]
end
end Go.Proofs.Ytckcffjnffcjcaa
