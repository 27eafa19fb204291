/- Boxes of the call's own under stores; what the cuts around drawn regions with an alloc need. No conditions. -/
import Derived.Test.YtckcffjnffcjcaaNets
import Derived.Test.YtckcffjnffcjcaaOver
import Derived.Deep.RegionHeld3
import Derived.Deep.DeepCutAuto
set_option linter.unusedVariables false
set_option linter.unusedSimpArgs false
namespace Go.Proofs.Ytckcffjnffcjcaa
open Go.RowKit Go.Proofs.YtckcffjnffcjcaaW.PrintWords
/-- A store elsewhere. -/
theorem Bx.far {W : World} {b : Nat} {vs : List Value} (h : Bx W b vs) {g i : Nat} (hg : b ≠ g) (u : Value) : Bx (W.setCell ⟨g, i, none⟩ u) b vs := by
  have e : (W.setCell ⟨g, i, none⟩ u).heap[b]? = W.heap[b]? := Below.heap_setCell W ⟨g, i, none⟩ u b hg
  refine ⟨by simpa [World.setCell] using h.lt, fun i v hv => ?_, fun i => ?_⟩
  · have := h.c i v hv
    unfold World.cell? at this ⊢
    simp only at this ⊢
    rw [e]; exact this
  · have := h.f i
    unfold World.frozen? at this ⊢
    simp only at this ⊢
    rw [e]; exact this
/-- A store into one of its cells. -/
theorem Bx.set {W : World} {b : Nat} {vs : List Value} (h : Bx W b vs) {i : Nat} (hi : i < vs.length) (u : Value) : Bx (W.setCell ⟨b, i, none⟩ u) b (vs.set i u) := by
  obtain ⟨v0, hv0⟩ : ∃ v0, vs[i]? = some v0 := ⟨vs[i], List.getElem?_eq_getElem hi⟩
  have hc0 := h.c i v0 hv0
  refine ⟨by simpa [World.setCell] using h.lt, fun j v hv => ?_, fun j => ?_⟩
  · rw [List.getElem?_set] at hv
    by_cases hij : i = j
    · subst hij
      rw [if_pos rfl, if_pos hi] at hv
      injection hv with hv
      subst hv
      exact World.cell?_setCell_same' W ⟨b, i, none⟩ u (by rw [hc0]; rfl)
    · rw [if_neg hij] at hv
      rw [World.cell?_setCell_other W _ _ _ (by intro h2; injection h2 with _ h2 _; exact hij h2)]
      exact h.c j v hv
  · rw [World.frozen?_setCell]
    exact h.f j
theorem Bx.drew {W : World} {b : Nat} {vs : List Value} (h : Bx W b vs) : Bx W.drew b vs := ⟨h.lt, h.c, h.f⟩
theorem Bx.drewN {W : World} {b : Nat} {vs : List Value} (h : Bx W b vs) (n : Nat) : Bx (W.drewN n) b vs := ⟨h.lt, h.c, h.f⟩
theorem Bx.new' (w : World) (vs : List Value) (t : TypeId) {g : Nat} (hg : g = w.heap.size) : Bx (w.alloc (.cells vs.toArray t)) g vs := by subst hg; exact Bx.new w vs t
end Go.Proofs.Ytckcffjnffcjcaa
